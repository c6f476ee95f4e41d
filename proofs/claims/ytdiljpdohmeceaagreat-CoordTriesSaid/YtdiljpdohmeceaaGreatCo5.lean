/- coord: (*Coord).Find, Put, Delete, Get. -/
import Derived.Test.YtdiljpdohmeceaaGreatCo4
import Derived.Test.YtdiljpdohmeceaaGreatCoU
import Derived.Test.YtdiljpdohmeceaaGreatCoB
namespace Go.Proofs.YtdiljpdohmeceaaGreat.co
open Go.RowKit H O opk frame wir

def jPut (key : ByteArray) (text : List Int) : Job := ⟨1, key, text⟩
def jDel (key : ByteArray) : Job := ⟨2, key, []⟩
def jGet (key : ByteArray) : Job := ⟨3, key, []⟩
def jFind (p : List Int) : Job := ⟨4, ⟨#[]⟩, p⟩
def jobObj (j : Job) (tv dv : Value) : Obj := .cells #[.int .i64 0, .int .i64 0, .bool false, .bool false, .slice none 0 0, .slice none 0 0, .int .i64 (wkind j), .int .i64 (okind j), .int .i64 0, .int .i64 0, .string (okey j), tv, dv, .slice none 0 0] 92
/-- behind a call that gives a job, or refuses it -/
def NewJ (U : List Nat) (L : Lay) (cf : Cfg) (v er : Int) (s' : Cs) (w : World) (e : Ending) (w' : World) : Prop :=
  e = .returned (.tuple #[.int .i64 v, .int .i64 er]) ∧ ∃ L', CoSt U w' L' cf s' ∧ Grew w L L' ∧ Kp L.all w w'
theorem NewJ.no {U : List Nat} {L : Lay} {cf : Cfg} {s : Cs} {w w' : World} (h : CoSt U w L cf s) (k : Kp [] w w') (er : Int) : NewJ U L cf 0 er s w (.returned (.tuple #[.int .i64 0, .int .i64 er])) w' :=
  ⟨rfl, L, h.kp k (by simp) (fun x hx => .inl hx), Grew.refl _ _, k.mono (by simp)⟩

theorem gives_new {U : List Nat} {w w1 : World} {L : Lay} {cf : Cfg} {s : Cs} (hC : CoSt U w L cf s) (ok : CsOk cf s) (k : Kp [] w w1) (j : Job) (tv dv : Value) (htv : BSl (L.all ++ U) w1 tv (otext j)) (hdv : BSl (L.all ++ U) w1 dv (ddat j)) (hn : nextJ s ≤ 900000) :
    Calls Tryz.prog 28 #[.pointer (some ⟨L.b, 0, none⟩), .pointer (some ⟨w1.heap.size, 0, none⟩)] (w1.alloc (jobObj j tv dv)) (NewJ U L cf (nextJ s) 0 (gives s j) w) := by
  have kA : Kp [] w1 (w1.alloc (jobObj j tv dv)) := (Kp.refl [] w1).alloc _
  have hU := hC.lt
  have hs := k.size
  have hC2 : CoSt (w1.heap.size :: U) (w1.alloc (jobObj j tv dv)) L cf s := hC.kp (k.trans kA (by simp)) (by simp) (fun x hx => by
    rcases List.mem_cons.1 hx with rfl | e
    · exact .inr ⟨hs, by simp⟩
    · exact .inl e)
  have hS : ∀ x ∈ L.all ++ (w1.heap.size :: U), x ∈ L.all ++ U ∨ w1.heap.size ≤ x := by
    intro x hx
    simp only [List.mem_append, List.mem_cons] at hx ⊢
    rcases hx with e | rfl | e
    · exact .inl (.inl e)
    · exact .inr (Nat.le_refl _)
    · exact .inl (.inr e)
  refine (gives_any U (w1.alloc (jobObj j tv dv)) L cf s j w1.heap.size tv dv hC2 (heap_alloc_new w1 _) (htv.kp kA (by simp) hS) (hdv.kp kA (by simp) hS) (fun e => by have := hU _ (List.mem_append.2 (.inr e)); omega) ok.none hn).mono ?_
  rintro e w' ⟨rfl, L', q1, q2, q3, q4⟩
  have hsz : (w1.alloc (jobObj j tv dv)).heap.size = w1.heap.size + 1 := by simp
  refine ⟨rfl, L', q1, ⟨q2, fun x hx => ?_⟩, ((k.trans kA (by simp)).mono (by simp)).trans q4 (fun x hx => ?_)⟩
  · rcases q3 x hx with e | e | e
    · exact .inl e
    · exact .inr (by omega)
    · exact .inr (by omega)
  · rcases List.mem_cons.1 hx with e | e
    · exact .inr (by omega)
    · exact .inl e

set_option maxHeartbeats 4000000 in
set_option maxRecDepth 100000 in
theorem find_any (U : List Nat) (w : World) (L : Lay) (cf : Cfg) (s : Cs) (A : Option Addr) (n c : Nat) (xs : List Int) (hC : CoSt U w L cf s) (ok : CsOk cf s) (hj : nextJ s ≤ 900000) (hn : xs.length = n) (hr : Rd w A (iv .u8 xs)) (hnil : A = none → c = 0) (h9 : n ≤ 1000000) :
    Calls Tryz.prog 25 #[.pointer (some ⟨L.b, 0, none⟩), .slice A n c] w (if 1 ≤ n ∧ n ≤ 64 then NewJ U L cf (nextJ s) 0 (gives s (jFind xs)) w else NewJ U L cf 0 10 s w) := by
  have HC := As.mk hC
  by_cases h : 1 ≤ n ∧ n ≤ 64
  · rw [if_pos h]
    obtain ⟨h1, h2⟩ := h
    have i1 : ¬ (n : Int) < 1 := by omega
    have i2 : ¬ (64 : Int) < (n : Int) := by omega
    have HCL : As (Calls Tryz.prog 29 #[.slice A n c] w fun e w1 => ∃ A2 c2, e = .returned (.slice A2 n c2) ∧ As (Calls Tryz.prog 28 #[.pointer (some ⟨L.b, 0, none⟩), .pointer (some ⟨w1.heap.size, 0, none⟩)] (w1.alloc (jobObj (jFind xs) (.slice none 0 0) (.slice A2 n c2))) (NewJ U L cf (nextJ s) 0 (gives s (jFind xs)) w))) := ⟨by
      refine (cloneb_any A n c xs w hn hr hnil (by omega)).mono ?_
      rintro e w1 ⟨v, rfl, ho, hk⟩
      obtain ⟨A2, c2, rfl, _⟩ := own_rd ho.1
      rw [hn] at ho ⊢
      have hlt := hC.lt
      exact ⟨A2, c2, rfl, ⟨gives_new hC ok hk (jFind xs) _ _ (BSl.nil _ _) (BSl.own ho (fun x hx => .inl (hlt x hx))) hj⟩⟩⟩
    clear hC ok hj hn hr hnil h9
    go_enter Tryz.func25, Tryz.ntmps25
    go_wp2_with (first
      | (go_at_call 29; refine HCL.out.mono ?_; rintro e w1 ⟨A2, c2, rfl, HG⟩)
      | (go_at_call 28; refine HG.out.mono ?_; rintro e w2 ⟨rfl, HR⟩; have HR := As.mk HR))
    go_ret2
    exact ⟨rfl, HR.out⟩
  · rw [if_neg h]
    have hd : (n < 1) ∨ (¬ n < 1 ∧ 64 < n) := by omega
    clear hC ok hj hn hr hnil h
    go_enter Tryz.func25, Tryz.ntmps25
    rcases hd with h1 | ⟨h1, h2⟩
    · have i1 : (n : Int) < 1 := by omega
      go_wp2
      go_ret2
      exact NewJ.no HC.out (Kp.refl _ _) 10
    · have i1 : ¬ (n : Int) < 1 := by omega
      have i2 : (64 : Int) < (n : Int) := by omega
      go_wp2
      go_ret2
      exact NewJ.no HC.out (Kp.refl _ _) 10
end Go.Proofs.YtdiljpdohmeceaaGreat.co
