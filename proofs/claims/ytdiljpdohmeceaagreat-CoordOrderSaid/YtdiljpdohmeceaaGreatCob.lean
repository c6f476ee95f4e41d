/- MERGED: Co4 Co5 CoV CoY CoZ Co1 Co2 CoN Co3 Co6 -/
import Derived.Test.YtdiljpdohmeceaaGreatCoa
import Derived.Deep.RegionHeld3
import Derived.Deep.CutRange
import Derived.Deep.CutBlock
import Derived.Test.YtdiljpdohmeceaaGreatBase
import Derived.Deep.QuietTactic
import Derived.BigQuiet
import Derived.BigRegion
import Derived.Lib.SlBytesConst
/- coord: (*Coord).gives. -/
namespace Go.Proofs.YtdiljpdohmeceaaGreat.co
open Go.RowKit H O opk frame wir

theorem Que.form2 {w : World} {v : Value} {g : Option Nat} {ps : List Nat} (h : Que w v g ps) : ∃ A c, v = .slice A ps.length c := by
  rcases h with ⟨_, rfl, rfl⟩ | ⟨b, o, c, cur, _, rfl, _⟩
  · exact ⟨none, 0, rfl⟩
  · exact ⟨_, c, rfl⟩
/-- a job's block, as it is made -/
def JobNew (w : World) (p : Nat) (j : Job) (tv dv : Value) : Prop :=
  w.heap[p]? = some (.cells #[.int .i64 0, .int .i64 0, .bool false, .bool false, .slice none 0 0, .slice none 0 0, .int .i64 (wkind j), .int .i64 (okind j), .int .i64 0, .int .i64 0, .string (okey j), tv, dv, .slice none 0 0] 92 (0, 0))
def GivesI (U : List Nat) (L : Lay) (cf : Cfg) (s' : Cs) (p : Nat) (w w' : World) : Prop := ∃ L', CoSt U w' L' cf s' ∧ L'.b = L.b ∧ (∀ x ∈ L'.all, x ∈ L.all ∨ x = p ∨ w.heap.size ≤ x) ∧ Kp (p :: L.all) w w'

set_option maxHeartbeats 8000000 in
set_option maxRecDepth 100000 in
theorem gives_any (U : List Nat) (w : World) (L : Lay) (cf : Cfg) (s : Cs) (j : Job) (p : Nat) (tv dv : Value) (hC : CoSt (p :: U) w L cf s) (hp : JobNew w p j tv dv) (htv : BSl (L.all ++ (p :: U)) w tv (otext j)) (hdv : BSl (L.all ++ (p :: U)) w dv (ddat j)) (hpu : p ∉ U) (hno : s.jobs = [] → s.asks = []) (hn : nextJ s ≤ 900000) :
    Calls Tryz.prog 28 #[.pointer (some ⟨L.b, 0, none⟩), .pointer (some ⟨p, 0, none⟩)] w fun e w' => e = .returned (.tuple #[.int .i64 (nextJ s : Int), .int .i64 0]) ∧ GivesI U L cf (gives s j) p w w' := by
  obtain ⟨κ, VS, VW, VJ, VD, MV, AV, l, h⟩ := hC
  obtain ⟨n, hn'⟩ : ∃ n, nextJ s = n := ⟨_, rfl⟩
  have hd := h.hd
  rw [hn'] at hd hn
  have hpb : ¬ p = L.b := by
    have h1 := h.sep.U p (by simp)
    have h2 := h.sep.b
    intro e
    rw [e] at h1
    omega
  have hbp : ¬ L.b = p := fun e => hpb e.symm
  have b0 : w.cell? ⟨L.b, 0, none⟩ = some (.int .i64 (cf.id : Int)) := blk_cell hd 0 rfl
  have b5 : w.cell? ⟨L.b, 5, none⟩ = some VJ := blk_cell hd 5 rfl
  have b6 : w.cell? ⟨L.b, 6, none⟩ = some (.int .i64 (n : Int)) := blk_cell hd 6 rfl
  have fb := blk_free hd 6
  have fb5 := blk_free hd 5
  have p0 : w.cell? ⟨p, 0, none⟩ = some (.int .i64 0) := blk_cell hp 0 rfl
  have p8 : w.cell? ⟨p, 8, none⟩ = some (.int .i64 0) := blk_cell hp 8 rfl
  have p9 : w.cell? ⟨p, 9, none⟩ = some (.int .i64 0) := blk_cell hp 9 rfl
  have fp0 := blk_free hp 0
  have fp8 := blk_free hp 8
  have fp9 := blk_free hp 9
  have i0 : (0 : Int) ≤ (n : Int) := by omega
  have i1 : (n : Int) ≤ 900000 := by omega
  have i2 : IntKind.i64.wrap ((n : Int) + 1) = (n : Int) + 1 := by rw [IntKind.wrap_i64]; omega
  obtain ⟨AJ, cJ, rfl⟩ := h.jq.form2
  obtain ⟨nJ, hnJ⟩ : ∃ n, L.js.length = n := ⟨_, rfl⟩
  rw [hnJ] at b5 hd
  have KX : As (∀ wX, Kp [p] w wX → wX.cell? ⟨L.b, 0, none⟩ = some (.int .i64 (cf.id : Int)) ∧ wX.cell? ⟨L.b, 6, none⟩ = some (.int .i64 (n : Int))) := ⟨fun wX kX => ⟨kX.cell b0 (by simpa using hbp), kX.cell b6 (by simpa using hbp)⟩⟩
  have H := As.mk h
  have HD := As.mk hd
  have HP := As.mk hp
  have HT := As.mk (And.intro htv hdv)
  have HN := As.mk hn'
  have HNJ := As.mk hnJ
  have HPU := As.mk (And.intro hpu hno)
  clear h hd hp htv hdv hn' hnJ hpu hno
  go_enter Tryz.func28, Tryz.ntmps28
  go_upto_region 2 with fail
  go_region_held3 (fun wX => wX.cell? ⟨L.b, 0, none⟩ = some (.int .i64 (cf.id : Int)) ∧ wX.cell? ⟨L.b, 6, none⟩ = some (.int .i64 (n : Int))) (first | exact KX.out _ (((Kp.refl [p] w).setCell (.inl (by simp)) _).drew) | exact KX.out _ (((Kp.refl [p] w).drew).setCell (.inl (by simp)) _) | exact KX.out _ ((((Kp.refl [p] w).setCell (.inl (by simp)) _).setCell (.inl (by simp)) _).drew) | exact KX.out _ (((((Kp.refl [p] w).setCell (.inl (by simp)) _).setCell (.inl (by simp)) _).setCell (.inl (by simp)) _).drew) | go_keep) (fail)
  obtain ⟨W2, hW2⟩ : ∃ W, W = (((w.setCell ⟨p, 0, none⟩ (.int .i64 (n : Int))).setCell ⟨p, 8, none⟩ (.int .i64 (cf.id : Int))).setCell ⟨p, 9, none⟩ (.int .i64 ((n : Int) + 1))).drew := ⟨_, rfl⟩
  rw [← hW2]
  have k2 : Kp [p] w W2 := by rw [hW2]; exact (((((Kp.refl [p] w).setCell (.inl (by simp)) _).setCell (.inl (by simp)) _).setCell (.inl (by simp)) _)).drew
  have hp2 : W2.heap[p]? = some (.cells #[.int .i64 (n : Int), .int .i64 0, .bool false, .bool false, .slice none 0 0, .slice none 0 0, .int .i64 (wkind j), .int .i64 (okind j), .int .i64 (cf.id : Int), .int .i64 ((n : Int) + 1), .string (okey j), tv, dv, .slice none 0 0] 92 (0, 0)) := by
    rw [hW2]
    exact heap_setCell_same _ p 9 _ _ (.int .i64 ((n : Int) + 1)) (heap_setCell_same _ p 8 _ _ (.int .i64 (cf.id : Int)) (heap_setCell_same _ p 0 _ _ (.int .i64 (n : Int)) HP.out))
  have hd2 := k2.blk HD.out (by simpa using hbp)
  obtain ⟨W3, hW3⟩ : ∃ W, W = W2.setCell ⟨L.b, 6, none⟩ (.int .i64 ((n : Int) + 1)) := ⟨_, rfl⟩
  have k3 : Kp [L.b] W2 W3 := by rw [hW3]; exact (Kp.refl _ W2).setCell (.inl (by simp)) _
  have hd3 := heap_setCell_same W2 L.b 6 _ _ (.int .i64 ((n : Int) + 1)) hd2
  rw [← hW3] at hd3
  have hp3 := k3.blk hp2 (by simpa using hpb)
  have hs3 : W3.heap.size = W2.heap.size := by rw [hW3]; simp
  have hs2 : W2.heap.size = w.heap.size := by rw [hW2]; simp [World.drew]
  have k23 : Kp (L.b :: p :: L.gj.toList) w W3 := (k2.mono (by simp)).trans k3 (by simp)
  have hgb : ∀ x, L.gj = some x → x ≠ L.b ∧ x ≠ p := fun x e => by
    have h1 := H.out.sep.gj x e
    have h2 := H.out.sep.b
    have h3 := H.out.sep.U p (by simp)
    exact ⟨fun e2 => by rw [e2] at h1; omega, fun e2 => by rw [e2] at h1; omega⟩
  have hq3 : Que W3 (.slice AJ nJ cJ) L.gj L.js := by
    have hq := H.out.jq
    rw [HNJ.out] at hq
    refine (hq.kp k2 (fun x e hm => ?_)).kp k3 (fun x e hm => ?_)
    · simp at hm; exact (hgb x e).2 hm
    · simp at hm; exact (hgb x e).1 hm
  have HQ3 : As (Que (W3.alloc (.cells #[ptr p] 88)) (.slice AJ nJ cJ) L.gj L.js) := ⟨hq3.kp ((Kp.refl [] W3).alloc _) (by simp)⟩
  have hlen : L.js.length + 1 ≤ 1000000 := by
    have h1 := H.out.jl
    have h2 := HN.out
    unfold nextJ at h2
    omega
  have HFIN : As (∀ v7 w7 g7, Que w7 v7 g7 (L.js ++ [p]) → Kp L.gj.toList (W3.alloc (.cells #[ptr p] 88)) w7 → At (W3.heap.size + 1) L.gj g7 → 
      w7.cell? ⟨L.b, 5, none⟩ = some (.slice AJ nJ cJ) ∧ w7.frozen? ⟨L.b, 5, none⟩ = false ∧ w7.cell? ⟨p, 0, none⟩ = some (.int .i64 (n : Int)) ∧ As (GivesI U L cf (gives s j) p w (w7.setCell ⟨L.b, 5, none⟩ v7))) := ⟨by
    intro v7 w7 g7 q7 k7 a7
    have nb : L.b ∉ L.gj.toList := fun e => (hgb L.b (by simpa using e)).1 rfl
    have np : p ∉ L.gj.toList := fun e => (hgb p (by simpa using e)).2 rfl
    have hd7 := k7.blk (blk_alloc hd3 _) nb
    have hp7 := k7.blk (blk_alloc hp3 _) np
    have kS : Kp [L.b] w7 (w7.setCell ⟨L.b, 5, none⟩ v7) := (Kp.refl _ w7).setCell (.inl (by simp)) _
    have hdS : (w7.setCell ⟨L.b, 5, none⟩ v7).heap[L.b]? = _ := heap_setCell_same w7 L.b 5 _ _ v7 hd7
    have hpS := kS.blk hp7 (by simpa using hpb)
    have kF : Kp (L.b :: p :: L.gj.toList) w (w7.setCell ⟨L.b, 5, none⟩ v7) := ((k23.alloc _).trans k7 (fun x hx => .inl (by simp [hx]))).trans kS (by simp)
    have hat : ∀ x, g7 = some x → L.gj = some x ∨ w.heap.size ≤ x := by
      intro x e
      rcases a7 with e2 | ⟨y, e2, hy⟩
      · exact .inl (e2.symm.trans e)
      · rw [e2] at e
        cases e
        exact .inr (by omega)
    have hbl := H.out.sep.b
    have hqS : Que (w7.setCell ⟨L.b, 5, none⟩ v7) v7 g7 (L.js ++ [p]) := q7.kp kS (fun x e hm => by
      simp at hm
      rcases hat x e with e2 | e2
      · exact (hgb x e2).1 hm
      · omega)
    have hV : ∀ x ∈ L.b :: p :: L.gj.toList, x ∈ L.all ++ (p :: U) ∨ w.heap.size ≤ x := by
      intro x hx
      refine .inl (List.mem_append.2 ?_)
      rcases List.mem_cons.1 hx with rfl | hx
      · exact .inl (Lay.mem.2 (by simp))
      · rcases List.mem_cons.1 hx with rfl | hx
        · exact .inr (by simp)
        · exact .inl (Lay.mem.2 (by have : L.gj = some x := by simpa using hx
                                    simp [this]))
    obtain ⟨L', q1, q2, q3⟩ := H.out.more (j := j) HPU.out.1 HPU.out.2 kF (by rw [HN.out]; exact hdS) hqS hat (fun S2 hS2 => ⟨tv, dv, by rw [HN.out]; exact hpS, HT.out.1.kp kF hV hS2, HT.out.2.kp kF hV hS2⟩)
    refine ⟨blk_cell hd7 5 rfl, blk_free hd7 5, blk_cell hp7 0 rfl, ⟨L', q1, q2, q3, kF.mono (fun x hx => .inl ?_)⟩⟩
    rcases List.mem_cons.1 hx with rfl | hx
    · exact List.mem_cons_of_mem _ (Lay.mem.2 (by simp))
    · rcases List.mem_cons.1 hx with rfl | hx
      · simp
      · exact List.mem_cons_of_mem _ (Lay.mem.2 (by have : L.gj = some x := by simpa using hx
                                                    simp [this]))⟩
  have c5 : W2.cell? ⟨L.b, 5, none⟩ = some (.slice AJ nJ cJ) := blk_cell hd2 5 rfl
  have c6 : W2.cell? ⟨L.b, 6, none⟩ = some (.int .i64 (n : Int)) := blk_cell hd2 6 rfl
  have g5 := blk_free hd2 5
  have g6 := blk_free hd2 6
  have HW3 := As.mk hW3
  have HLIT : As ((W3.alloc (.cells #[ptr p] 88)).cell? ⟨W2.heap.size, 0, none⟩ = some (ptr p)) := ⟨by rw [← hs3]; exact blk_cell (heap_alloc_new W3 _) 0 rfl⟩
  clear hW2 k2 hp2 hd2 hW3 k3 hd3 hp3 hs3 hs2 k23 hgb hq3 b0 b5 b6 fb fb5 p0 p8 p9 fp0 fp8 fp9
  go_wp2_with (at_builtin; rw [← HW3.out]; refine wpList_que rfl (.tmp 42) (.tmp 44) rfl (.slice AJ nJ cJ) L.gj L.js rfl HQ3.out W2.heap.size p rfl HLIT.out hlen ?_; intro v7 w7 g7 q7 k7 a7 _; obtain ⟨A7, c7, rfl⟩ := q7.form2; obtain ⟨y0, y1, y2, HZ⟩ := HFIN.out _ w7 g7 q7 k7 (by simpa using a7); clear q7 k7 a7)
  go_ret2
  have h := HZ.out
  simp only [List.length_append, List.length_singleton] at h
  refine ⟨?_, h⟩
  rw [HN.out]
  rfl
end Go.Proofs.YtdiljpdohmeceaaGreat.co

/- coord: (*Coord).Find, Put, Delete, Get. -/
namespace Go.Proofs.YtdiljpdohmeceaaGreat.co
open Go.RowKit H O opk frame wir

def jPut (key : ByteArray) (text : List Int) : Job := ⟨1, key, text⟩
def jDel (key : ByteArray) : Job := ⟨2, key, []⟩
def jGet (key : ByteArray) : Job := ⟨3, key, []⟩
def jFind (p : List Int) : Job := ⟨4, ⟨#[]⟩, p⟩
def jobObj (j : Job) (tv dv : Value) : Obj := .cells #[.int .i64 0, .int .i64 0, .bool false, .bool false, .slice none 0 0, .slice none 0 0, .int .i64 (wkind j), .int .i64 (okind j), .int .i64 0, .int .i64 0, .string (okey j), tv, dv, .slice none 0 0] 92
/-- behind a call that gives a job, or refuses it -/
def NewJ (U : List Nat) (L : Lay) (cf : Cfg) (v er : Int) (s' : Cs) (w : World) (e : Ending) (w' : World) : Prop :=
  e = .returned (.tuple #[.int .i64 v, .int .i64 er]) ∧ ∃ L', CoSt U w' L' cf s' ∧ Grew w L L' ∧ Kp L.all w w'
theorem NewJ.no {U : List Nat} {L : Lay} {cf : Cfg} {s : Cs} {w w' : World} (h : CoSt U w L cf s) (k : Kp [] w w') (er : Int) : NewJ U L cf 0 er s w (.returned (.tuple #[.int .i64 0, .int .i64 er])) w' :=
  ⟨rfl, L, h.kp k (by simp) (fun x hx => .inl hx), Grew.refl _ _, k.mono (by simp)⟩

theorem gives_new {U : List Nat} {w w1 : World} {L : Lay} {cf : Cfg} {s : Cs} (hC : CoSt U w L cf s) (ok : CsOk cf s) (k : Kp [] w w1) (j : Job) (tv dv : Value) (htv : BSl (L.all ++ U) w1 tv (otext j)) (hdv : BSl (L.all ++ U) w1 dv (ddat j)) (hn : nextJ s ≤ 900000) :
    Calls Tryz.prog 28 #[.pointer (some ⟨L.b, 0, none⟩), .pointer (some ⟨w1.heap.size, 0, none⟩)] (w1.alloc (jobObj j tv dv)) (NewJ U L cf (nextJ s) 0 (gives s j) w) := by
  have kA : Kp [] w1 (w1.alloc (jobObj j tv dv)) := (Kp.refl [] w1).alloc _
  have hU := hC.lt
  have hs := k.size
  have hC2 : CoSt (w1.heap.size :: U) (w1.alloc (jobObj j tv dv)) L cf s := hC.kp (k.trans kA (by simp)) (by simp) (fun x hx => by
    rcases List.mem_cons.1 hx with rfl | e
    · exact .inr ⟨hs, by simp⟩
    · exact .inl e)
  have hS : ∀ x ∈ L.all ++ (w1.heap.size :: U), x ∈ L.all ++ U ∨ w1.heap.size ≤ x := by
    intro x hx
    simp only [List.mem_append, List.mem_cons] at hx ⊢
    rcases hx with e | rfl | e
    · exact .inl (.inl e)
    · exact .inr (Nat.le_refl _)
    · exact .inl (.inr e)
  refine (gives_any U (w1.alloc (jobObj j tv dv)) L cf s j w1.heap.size tv dv hC2 (heap_alloc_new w1 _) (htv.kp kA (by simp) hS) (hdv.kp kA (by simp) hS) (fun e => by have := hU _ (List.mem_append.2 (.inr e)); omega) ok.none hn).mono ?_
  rintro e w' ⟨rfl, L', q1, q2, q3, q4⟩
  have hsz : (w1.alloc (jobObj j tv dv)).heap.size = w1.heap.size + 1 := by simp
  refine ⟨rfl, L', q1, ⟨q2, fun x hx => ?_⟩, ((k.trans kA (by simp)).mono (by simp)).trans q4 (fun x hx => ?_)⟩
  · rcases q3 x hx with e | e | e
    · exact .inl e
    · exact .inr (by omega)
    · exact .inr (by omega)
  · rcases List.mem_cons.1 hx with e | e
    · exact .inr (by omega)
    · exact .inl e

set_option maxHeartbeats 4000000 in
set_option maxRecDepth 100000 in
theorem find_any (U : List Nat) (w : World) (L : Lay) (cf : Cfg) (s : Cs) (A : Option Addr) (n c : Nat) (xs : List Int) (hC : CoSt U w L cf s) (ok : CsOk cf s) (hj : nextJ s ≤ 900000) (hn : xs.length = n) (hr : Rd w A (iv .u8 xs)) (hnil : A = none → c = 0) (h9 : n ≤ 1000000) :
    Calls Tryz.prog 25 #[.pointer (some ⟨L.b, 0, none⟩), .slice A n c] w (if 1 ≤ n ∧ n ≤ 64 then NewJ U L cf (nextJ s) 0 (gives s (jFind xs)) w else NewJ U L cf 0 10 s w) := by
  have HC := As.mk hC
  by_cases h : 1 ≤ n ∧ n ≤ 64
  · rw [if_pos h]
    obtain ⟨h1, h2⟩ := h
    have i1 : ¬ (n : Int) < 1 := by omega
    have i2 : ¬ (64 : Int) < (n : Int) := by omega
    have HCL : As (Calls Tryz.prog 29 #[.slice A n c] w fun e w1 => ∃ A2 c2, e = .returned (.slice A2 n c2) ∧ As (Calls Tryz.prog 28 #[.pointer (some ⟨L.b, 0, none⟩), .pointer (some ⟨w1.heap.size, 0, none⟩)] (w1.alloc (jobObj (jFind xs) (.slice none 0 0) (.slice A2 n c2))) (NewJ U L cf (nextJ s) 0 (gives s (jFind xs)) w))) := ⟨by
      refine (cloneb_any A n c xs w hn hr hnil (by omega)).mono ?_
      rintro e w1 ⟨v, rfl, ho, hk⟩
      obtain ⟨A2, c2, rfl, _⟩ := own_rd ho.1
      rw [hn] at ho ⊢
      have hlt := hC.lt
      exact ⟨A2, c2, rfl, ⟨gives_new hC ok hk (jFind xs) _ _ (BSl.nil _ _) (BSl.own ho (fun x hx => .inl (hlt x hx))) hj⟩⟩⟩
    clear hC ok hj hn hr hnil h9
    go_enter Tryz.func25, Tryz.ntmps25
    go_wp2_with (first
      | (go_at_call 29; refine HCL.out.mono ?_; rintro e w1 ⟨A2, c2, rfl, HG⟩)
      | (go_at_call 28; refine HG.out.mono ?_; rintro e w2 ⟨rfl, HR⟩; have HR := As.mk HR))
    go_ret2
    exact ⟨rfl, HR.out⟩
  · rw [if_neg h]
    have hd : (n < 1) ∨ (¬ n < 1 ∧ 64 < n) := by omega
    clear hC ok hj hn hr hnil h
    go_enter Tryz.func25, Tryz.ntmps25
    rcases hd with h1 | ⟨h1, h2⟩
    · have i1 : (n : Int) < 1 := by omega
      go_wp2
      go_ret2
      exact NewJ.no HC.out (Kp.refl _ _) 10
    · have i1 : ¬ (n : Int) < 1 := by omega
      have i2 : (64 : Int) < (n : Int) := by omega
      go_wp2
      go_ret2
      exact NewJ.no HC.out (Kp.refl _ _) 10
end Go.Proofs.YtdiljpdohmeceaaGreat.co

/- coord: (*Coord).begins. -/
namespace Go.Proofs.YtdiljpdohmeceaaGreat.co
open Go.RowKit H O opk frame wir

theorem frame_len {p : List Int} (h : p.length ≤ 9000) : (fEnc p).length ≤ 9012 := by rw [fEnc_len]; omega
theorem jdata_len {cf : Cfg} {num : Nat} {j : Job} (h : JobOk j) : (jdata cf num j).length ≤ 5000 ∧ Wf (jdata cf num j) := by
  have hk := h.key
  have ht := h.text
  have h4 := h.kind
  have ob : ∀ (kd a b : Int) (key : ByteArray) (x : List Int), key.size ≤ 64 → x.length ≤ 4096 → Wf x → (opBytes kd a b key x).length ≤ 5000 ∧ Wf (opBytes kd a b key x) := by
    intro kd a b key x h1 h2 h3
    have e1 := nums_len [kd, a, b]
    have e2 := rows2_len (kb key) x
    rw [kb_len] at e2
    refine ⟨by rw [opBytes, List.length_append]; simp only [List.length_cons, List.length_nil] at e1; omega, fun y hy => ?_⟩
    rcases List.mem_append.1 hy with e | e
    · exact nums_u8 _ y e
    · obtain ⟨z, hz, hy2⟩ := List.mem_flatMap.1 e
      refine row_u8 z ?_ y hy2
      simp only [List.mem_cons, List.not_mem_nil, or_false] at hz
      rcases hz with rfl | rfl
      · exact kb_wf key
      · exact h3
  unfold jdata
  split
  · exact ob _ _ _ _ _ (hk (by omega)).2 ht.1 ht.2
  · split
    · exact ob _ _ _ _ _ (hk (by omega)).2 (by simp) Wf.nil
    · split
      · exact ⟨by rw [kb_len]; have := hk (by omega); omega, kb_wf _⟩
      · exact ⟨by omega, ht.2⟩
theorem wkind_rq {j : Job} (h : JobOk j) (c s : Nat) (hc : c ≤ 1099511627776) (hs : s ≤ 255) : rqOk (wkind j) c s = true := by
  have h4 := h.kind
  simp only [rqOk, Bool.and_eq_true, decide_eq_true_eq]
  refine ⟨⟨?_, by omega⟩, by omega⟩
  unfold wkind
  split
  · omega
  · split
    · omega
    · split <;> omega
theorem wkind_find {j : Job} (h : JobOk j) : wkind j = 2 ↔ j.kind = 4 := by
  have h4 := h.kind
  unfold wkind
  split
  · omega
  · split
    · omega
    · split <;> omega

set_option maxHeartbeats 8000000 in
set_option maxRecDepth 100000 in
theorem begins_any (U : List Nat) (w : World) (L : Lay) (cf : Cfg) (s : Cs) (j : Job) (r : List Job) (p0 : Nat) (ps : List Nat) (hC : CoSt U w L cf s) (ok : CsOk cf s) (hj : s.jobs = j :: r) (hjs : L.js = p0 :: ps) (ha : s.asks = []) (hc : s.ctx + 8 ≤ 1099511627776) (he : s.ended + 1 ≤ 1099511627776) :
    Calls Tryz.prog 30 #[.pointer (some ⟨L.b, 0, none⟩), .pointer (some ⟨p0, 0, none⟩)] w fun e w' => e = .returned (.tuple #[]) ∧ BegI U L cf { s with asks := mkAsks cf s.ended j 0 s.ctx (jshards cf j), ctx := s.ctx + (jshards cf j).length } w w' := by
  have HC := As.mk hC
  obtain ⟨κ, VS, VW, VJ, VD, MV, AV, l, h⟩ := hC
  have jok := ok.jobs j (by rw [hj]; simp)
  obtain ⟨tv, dv, hbp, ⟨Ax, ct, rfl, hrt, hlt, hmt, hnt⟩, ⟨Ad, cd, rfl, hrd, hld, hmd, hnd⟩⟩ := h.ja 0 j p0 (by rw [hj]; rfl) (by rw [hjs]; rfl)
  obtain ⟨AS, cS, rfl, hri, hlS, hmS, hnS⟩ := h.sh
  obtain ⟨n, hn⟩ : ∃ n, cf.shards.length = n := ⟨_, rfl⟩
  obtain ⟨nt, hnt'⟩ : ∃ n, (otext j).length = n := ⟨_, rfl⟩
  obtain ⟨nd, hnd'⟩ : ∃ n, (ddat j).length = n := ⟨_, rfl⟩
  obtain ⟨wk, hwk⟩ : ∃ n, wkind j = n := ⟨_, rfl⟩
  obtain ⟨ok', hok'⟩ : ∃ n, okind j = n := ⟨_, rfl⟩
  rw [hwk, hok', hnt', hnd'] at hbp
  rw [hnt'] at hlt
  rw [hnd'] at hld
  have hnt9 : nt ≤ 4096 := by
    rw [← hnt', otext]
    split
    · exact jok.text.1
    · simp
  have b3 : w.cell? ⟨L.b, 3, none⟩ = some (.slice AS n cS) := by rw [← hn]; exact blk_cell h.hd 3 rfl
  have p6 : w.cell? ⟨p0, 6, none⟩ = some (.int .i64 wk) := blk_cell hbp 6 rfl
  have p7 : w.cell? ⟨p0, 7, none⟩ = some (.int .i64 ok') := blk_cell hbp 7 rfl
  have p8 : w.cell? ⟨p0, 8, none⟩ = some (.int .i64 (cf.id : Int)) := blk_cell hbp 8 rfl
  have p9 : w.cell? ⟨p0, 9, none⟩ = some (.int .i64 ((s.ended : Int) + 1)) := blk_cell hbp 9 rfl
  have p10 : w.cell? ⟨p0, 10, none⟩ = some (.string (okey j)) := blk_cell hbp 10 rfl
  have p11 : w.cell? ⟨p0, 11, none⟩ = some (.slice Ax nt ct) := blk_cell hbp 11 rfl
  have p12 : w.cell? ⟨p0, 12, none⟩ = some (.slice Ad nd cd) := blk_cell hbp 12 rfl
  have hcv : ∀ wX, Kp [] w wX → (convert 24 9 (.slice Ad nd cd)).run Tryz.prog wX = .ok (.string (strOfNums (ddat j))) wX := fun wX kX => cvt_str hnd' (kX.rd_new hrd.rd (by simp))
  have hcv0 := hcv w (Kp.refl _ _)
  clear hcv
  have HENC : As (∀ wX, Kp [] w wX → (wk = 1 → Calls Tryz.prog 74 #[.agg #[.int .i64 ok', .int .i64 (cf.id : Int), .int .i64 ((s.ended : Int) + 1), .string (okey j), .slice Ax nt ct]] wX fun e w' => ∃ A2 n2 c2, e = .returned (.tuple #[.slice A2 n2 c2, .int .i64 0]) ∧
      As ((jdata cf s.ended j).length = n2 ∧ RdS (L.all ++ U) w' A2 (iv .u8 (jdata cf s.ended j)) ∧ n2 ≤ c2 ∧ (A2 = none → c2 = 0)) ∧ As (Kp [] w w'))) := ⟨fun wX kX h1 => by
    have hid := ok.cfg.id
    have hw1 : (within1 (cf.id : Int) && within1 ((s.ended : Int) + 1)) = true := by simp only [within1, Bool.and_eq_true, decide_eq_true_eq]; omega
    have hlt2 := HC.out.lt
    have hkt := jok.key
    have htx := jok.text
    have key : ∀ kd, (j.kind = 1 ∨ j.kind = 2) → okind j = kd → opErr kd cf.id ((s.ended : Int) + 1) (okey j).size (otext j).length = 0 → jdata cf s.ended j = opBytes kd cf.id ((s.ended : Int) + 1) (okey j) (otext j) → okind j = ok' → 
        Calls Tryz.prog 74 #[.agg #[.int .i64 ok', .int .i64 (cf.id : Int), .int .i64 ((s.ended : Int) + 1), .string (okey j), .slice Ax nt ct]] wX fun e w' => ∃ A2 n2 c2, e = .returned (.tuple #[.slice A2 n2 c2, .int .i64 0]) ∧
          As ((jdata cf s.ended j).length = n2 ∧ RdS (L.all ++ U) w' A2 (iv .u8 (jdata cf s.ended j)) ∧ n2 ≤ c2 ∧ (A2 = none → c2 = 0)) ∧ As (Kp [] w w') := by
      intro kd _ e1 e2 e3 e4
      rw [e1] at e4
      subst e4
      refine (opk.encode_any kd cf.id ((s.ended : Int) + 1) (okey j) Ax nt ct (otext j) wX hnt' (kX.rd_new hrt.rd (by simp)) hlt hnt (by omega)).mono ?_
      rintro e w' ⟨v, rfl, ho, hk⟩
      rw [e2] at ho ⊢
      rw [if_pos rfl, ← e3] at ho
      obtain ⟨A2, c2, rfl, g1, g2, g3, g4⟩ := BSl.own (S := L.all ++ U) ho (fun x hx => .inl (by have := hlt2 x hx; have := kX.size; omega))
      exact ⟨A2, _, c2, rfl, ⟨rfl, g1, g2, g4⟩, ⟨kX.trans hk (by simp)⟩⟩
    by_cases k1 : j.kind = 1
    · have e1 : okind j = 1 := by simp [okind, k1]
      refine key 1 (.inl k1) e1 ?_ ?_ hok'
      · rw [show okey j = j.key from by simp [okey, k1], show otext j = j.text from by simp [otext, k1]]
        exact opErr_ne.2 ⟨.inl rfl, hw1, hkt (by omega), htx.1⟩
      · rw [show okey j = j.key from by simp [okey, k1], show otext j = j.text from by simp [otext, k1], jdata, if_pos k1]
    · by_cases k2 : j.kind = 2
      · have e1 : okind j = 2 := by simp [okind, k2]
        refine key 2 (.inr k2) e1 ?_ ?_ hok'
        · rw [show okey j = j.key from by simp [okey, k2], show otext j = [] from by simp [otext, k2]]
          exact opErr_ne.2 ⟨.inr ⟨rfl, by simp⟩, hw1, hkt (by omega), by simp⟩
        · rw [show okey j = j.key from by simp [okey, k2], show otext j = [] from by simp [otext, k2], jdata, if_neg k1, if_pos k2]
      · exfalso
        rw [← hwk, wkind, if_neg k1, if_neg k2] at h1
        split at h1 <;> omega⟩
  have HND : As (wk ≠ 1 → (jdata cf s.ended j) = ddat j ∧ (j.kind ≠ 4 → strOfNums (ddat j) = j.key)) := ⟨fun h1 => by
    have k1 : j.kind ≠ 1 := fun e => h1 (by rw [← hwk, wkind, if_pos e])
    have k2 : j.kind ≠ 2 := fun e => h1 (by rw [← hwk, wkind, if_neg k1, if_pos e])
    have h4 := jok.kind
    by_cases k3 : j.kind = 3
    · rw [jdata, if_neg k1, if_neg k2, if_pos k3, ddat, if_pos k3]
      exact ⟨rfl, fun _ => haystacklaw13.str_kb _⟩
    · rw [jdata, if_neg k1, if_neg k2, if_neg k3, ddat, if_neg k3, if_pos (by omega)]
      exact ⟨rfl, fun e => absurd (show j.kind = 4 by omega) e⟩⟩
  have HKD : As (wk = 1 → okey j = j.key) := ⟨fun h1 => by
    by_cases k1 : j.kind = 1
    · simp [okey, k1]
    · by_cases k2 : j.kind = 2
      · simp [okey, k2]
      · exfalso
        rw [← hwk, wkind, if_neg k1, if_neg k2] at h1
        split at h1 <;> omega⟩
  have HKZ : As ((okey j).size ≤ 64 ∧ (strOfNums (ddat j)).size ≤ 5000) := ⟨by
    have hkt := jok.key
    have htx := jok.text
    rw [opk.str_size]
    constructor
    · unfold okey
      split
      · exact (hkt (by omega)).2
      · split
        · exact (hkt (by omega)).2
        · exact Nat.zero_le _
    · unfold ddat
      split
      · rw [kb_len]
        have := hkt (by omega)
        omega
      · split
        · omega
        · simp⟩
  have HD := As.mk (And.intro hnd' (And.intro hrd (And.intro hld hnd)))
  have HJ := As.mk (And.intro jok (And.intro hj (And.intro hjs (And.intro ha (And.intro hc he)))))
  have HOK := As.mk ok
  have HWK := As.mk hwk
  have HN := As.mk hn
  clear h hbp hrt hlt hmt hnt hrd hld hmd hnd hri hlS hmS hnS jok hj hjs ha hc he ok hwk hok' hn hnt' hnd'
  go_enter Tryz.func30, Tryz.ntmps30
  go_upto_if 20 with fail
  go_cut [4, 5] from 20 to 33 (fun v4 v5 wx => ∃ (A2 : Option Addr) (n2 c2 : Nat) (K : ByteArray), v4 = .slice A2 n2 c2 ∧ v5 = .string K ∧ As ((jdata cf s.ended j).length = n2 ∧ RdS (L.all ++ U) wx A2 (iv .u8 (jdata cf s.ended j)) ∧ n2 ≤ c2 ∧ (A2 = none → c2 = 0)) ∧ As ((j.kind ≠ 4 → K = j.key) ∧ K.size ≤ 5000) ∧ As (Kp [] w wx))
  case first =>
    by_cases h1 : wk = 1
    · have HE := As.mk (HENC.out w (Kp.refl _ _) h1)
      have HK1 := As.mk (HKD.out h1)
      subst h1
      clear HENC HND HKD
      go_wp2_with (go_at_call 74; refine HE.out.mono ?_; rintro e w1 ⟨A2, n2, c2, rfl, HR, HK⟩; have p10' := HK.out.cell p10 (by simp); clear HE)
      go_meet
      exact ⟨A2, n2, c2, _, rfl, rfl, HR, ⟨fun _ => HK1.out, by have := HKZ.out; omega⟩, HK⟩
    · have b1 : (wk == 1) = false := by simpa using h1
      obtain ⟨e1, e2⟩ := HND.out h1
      have HE := As.mk (And.intro e1 e2)
      clear e1 e2 h1
      go_wp2
      go_meet
      exact ⟨Ad, nd, cd, _, rfl, rfl, ⟨by rw [HE.out.1]; exact HD.out⟩, ⟨HE.out.2, HKZ.out.2⟩, ⟨Kp.refl _ _⟩⟩
  case rest =>
    obtain ⟨A2, n2, c2, K, rfl, rfl, HR, HK, HKP⟩ := hcut
    have hn1 := HOK.out.cfg.len
    rw [HN.out] at hn1
    have HSH := As.mk (shard_full K n wc (by have := HK.out.2; omega) hn1.1 hn1.2)
    have d3 := HKP.out.cell b3 (by simp)
    obtain ⟨sh, hsh⟩ : ∃ x, shardOf (kb K) n = x := ⟨_, rfl⟩
    rw [hsh] at HSH
    have HSHV := As.mk hsh
    have HC0 := HC.out.kp (U2 := U) HKP.out (by simp) (fun x hx => .inl hx)
    clear hn1 hsh HENC HND HKD HKZ p6 p7 p8 p9 p10 p11 p12 b3 hcv0
    go_wp2_with (go_at_call 75; refine HSH.out.mono ?_; rintro e w1 ⟨rfl, k1⟩; have HK1 := As.mk k1; have d4 := k1.cell d3 (by simp); clear k1 HSH)
    have HB1 : As (BegI U L cf (bSt cf s j 0) w1 w1) := ⟨L, by
      have h0 := HC0.kp (U2 := U) HK1.out (by simp) (fun x hx => .inl hx)
      have e : bSt cf s j 0 = s := by
        simp only [bSt, pre_zero, mkAsks]
        rw [← HJ.out.2.2.2.1]
        rfl
      rw [e]
      exact h0, Grew.refl _ _, rfl, Kp.refl _ _⟩
    have HR1 : As (RdS (L.all ++ U) w1 A2 (iv .u8 (jdata cf s.ended j))) := ⟨HR.out.2.1.kp HK1.out (by simp)⟩
    have HWW : As (Kp [] w w1) := ⟨HKP.out.trans HK1.out (by simp)⟩
    have hn8 : n ≤ 8 := by have := HOK.out.cfg.len; have := HN.out; omega
    clear d3 d4 HC0
    go_loopw [49] (fun i wr => ∃ k : Nat, i = .int .i64 (k : Int) ∧ k ≤ n ∧ As (BegI U L cf (bSt cf s j k) w1 wr)) (fun i _ => n - (intOf i).toNat)
    case atStart => exact ⟨0, rfl, by omega, HB1⟩
    case round =>
      obtain ⟨k, rfl, hk, HB⟩ := hrel
      by_cases hlt : k < n
      · obtain ⟨Lk, ⟨κ', VS', VW', VJ', VD', MV', AV', l', hk'⟩, hg, hjl, hkp⟩ := HB.out
        have hjl' : Lk.js = p0 :: ps := hjl.trans HJ.out.2.2.1
        obtain ⟨tv', ev', hq, _, _⟩ := hk'.ja 0 j p0 (show s.jobs[0]? = some j by rw [HJ.out.2.1]; rfl) (by rw [hjl']; rfl)
        rw [if_pos rfl, if_pos rfl, HWK.out] at hq
        have hdk := hk'.hd
        rw [hg.1] at hdk
        obtain ⟨c0, hc0⟩ : ∃ c, (bSt cf s j k).ctx = c := ⟨_, rfl⟩
        rw [hc0] at hdk
        have r7 : wr.cell? ⟨L.b, 7, none⟩ = some (.int .i64 (c0 : Int)) := blk_cell hdk 7 rfl
        have g7 := blk_free hdk 7
        have q6 : wr.cell? ⟨p0, 6, none⟩ = some (.int .i64 wk) := blk_cell hq 6 rfl
        have q13 : wr.cell? ⟨p0, 13, none⟩ = some AV' := blk_cell hq 13 rfl
        have g13 := blk_free hq 13
        have hpl : p0 < wr.heap.size := lt_of_block hq
        have hbl : L.b < wr.heap.size := lt_of_block hdk
        have hpn : ¬ p0 = wr.heap.size := by omega
        have hbn : ¬ L.b = wr.heap.size := by omega
        have hpb : ¬ p0 = L.b := by
          have h1 := hk'.sep.js p0 (by rw [hjl']; simp)
          have h2 := hk'.sep.b
          rw [hg.1] at h2
          intro e
          rw [e] at h1
          omega
        have i0 : (0 : Int) ≤ (k : Int) := by omega
        have i1 : (k : Int) < (n : Int) := by omega
        have HC1 := As.mk hc0
        by_cases hgo : j.kind = 4 ∨ k = sh
        · have hpre : pre cf j (k + 1) = pre cf j k ++ [k] := by
            by_cases h4 : j.kind = 4
            · exact pre_find k h4
            · refine pre_hit h4 ?_
              rw [HN.out, ← HK.out.1 h4, HSHV.out]
              exact hgo.resolve_left h4
          have hcb : c0 + 1 ≤ 1099511627776 := by
            have h1 := HJ.out.2.2.2.2.1
            have h2 := pre_len cf j k
            rw [← hc0]
            show s.ctx + (pre cf j k).length + 1 ≤ _
            omega
          obtain ⟨W3, hW3⟩ : ∃ W3, W3 = (wr.setCell ⟨L.b, 7, none⟩ (.int .i64 ((c0 : Int) + 1))).alloc (.cells #[.int .i64 wk, .int .i64 ((c0 : Int) + 1), .int .i64 (k : Int), .slice A2 n2 c2, .slice none 0 0, .int .i64 0, .int .i64 0, .bool false, .bool false] 101) := ⟨_, rfl⟩
          have HW3 := As.mk hW3
          have hW3' : (wr.setCell ⟨Lk.b, 7, none⟩ (.int .i64 ((c0 + 1 : Nat) : Int))).alloc (askNew wk (c0 + 1) k (.slice A2 n2 c2)) = W3 := by rw [hW3, hg.1]; rfl
          have k3 : Kp L.all wr W3 := by
            rw [← hW3']
            exact ((Kp.refl L.all wr).setCell (.inl (by rw [hg.1]; exact CoSt.mem_b)) _).alloc _
          have hjd := jdata_len (cf := cf) (num := s.ended) HJ.out.1
          have HEN : As (∀ wX, Kp [] W3 wX → Calls Tryz.prog 76 #[.agg #[.int .i64 wk, .int .i64 ((c0 : Int) + 1), .int .i64 (k : Int), .slice A2 n2 c2]] wX fun e w4 => ∃ AF nF cF, e = .returned (.tuple #[.slice AF nF cF, .int .i64 0]) ∧ As (BegM U cf (bSt cf s j k) Lk p0 wr wk (c0 + 1) k (.slice A2 n2 c2) AV' (.slice AF nF cF) w4 ∧
              ∀ S2, (∀ x ∈ S2, x ≤ wr.heap.size) → BSl S2 w4 (.slice AF nF cF) (frameOf cf s.ended j (c0 + 1) k))) := ⟨fun wX kX => by
            refine (wir.encode_any wk ((c0 : Int) + 1) k A2 n2 c2 (jdata cf s.ended j) wX HR.out.1 ((((HR1.out.kp hkp (fun x hx => .inl (List.mem_append.2 (.inl hx)))).kp k3 (fun x hx => .inl (List.mem_append.2 (.inl hx)))).kp kX (by simp)).rd) HR.out.2.2.1 HR.out.2.2.2 hjd.2 (by have := HR.out.1; omega)).mono ?_
            rintro e w4 (⟨h1, _⟩ | ⟨_, AF, cF, rfl, k4, jd, _, _, _, _⟩)
            · have h2 := wkind_rq HJ.out.1 (c0 + 1) k hcb (by omega)
              rw [HWK.out] at h2
              rw [show ((c0 + 1 : Nat) : Int) = (c0 : Int) + 1 from rfl] at h2
              rw [h2] at h1
              cases h1
            · have hs3 : W3.heap.size = wr.heap.size + 1 := by rw [hW3, World.size_alloc, World.size_setCell]
              refine ⟨AF, _, cF, rfl, ⟨⟨hk'.aq, by rw [hg.1]; exact hbl, fun x hx => ?_, ⟨hpl, by rw [hg.1]; exact hpb⟩, ⟨q13, g13⟩, by rw [hW3']; exact kX.trans k4 (by simp)⟩, fun S2 hS2 => ?_⟩⟩
              · have h1 := hk'.sep.ga x hx
                have h2 := hk'.sep.b
                have h3 := hk'.sep.js p0 (by rw [hjl']; simp)
                exact ⟨h1.2, fun e => by rw [e] at h1; omega, fun e => by rw [e] at h1; omega⟩
              · have hf : frameOf cf s.ended j (c0 + 1) k = fEnc (pay 113 [wk, (c0 : Int) + 1, (k : Int)] (jdata cf s.ended j)) := by rw [frameOf, HWK.out]; rfl
                rw [hf]
                have hl := pay_len 113 [wk, (c0 : Int) + 1, (k : Int)] (jdata cf s.ended j) (by simp)
                have hl2 := frame_len (p := pay 113 [wk, (c0 : Int) + 1, (k : Int)] (jdata cf s.ended j)) (by have := hjd.1; omega)
                exact BSl.jd jd (fun x hx => by have := hS2 x hx; have := kX.size; omega) (by omega)⟩
          obtain ⟨m, hm⟩ : ∃ m, Lk.az.length = m := ⟨_, rfl⟩
          have hm9 : m ≤ 8 := by
            have h1 := hk'.al
            have h2 : (bSt cf s j k).asks.length = (pre cf j k).length := mkAsks_len ..
            have h3 := pre_len cf j k
            omega
          have HFIN : As (∀ w4 vF v7 w7, BegM U cf (bSt cf s j k) Lk p0 wr wk (c0 + 1) k (.slice A2 n2 c2) AV' vF w4 → (∀ S2, (∀ x ∈ S2, x ≤ wr.heap.size) → BSl S2 w4 vF (frameOf cf s.ended j (c0 + 1) k)) → w7.ownsRow 0 97 1 v7 (m + 1) (Lk.az.map ptr ++ [ptr wr.heap.size]) → Kp AV'.ownBlock.toList ((w4.setCell ⟨wr.heap.size, 4, none⟩ vF).alloc (.cells #[ptr wr.heap.size] 97)) w7 → At (w4.heap.size + 1) AV'.ownBlock v7.ownBlock →
              w7.cell? ⟨p0, 13, none⟩ = some AV' ∧ w7.frozen? ⟨p0, 13, none⟩ = false ∧ As (BegI U L cf (bSt cf s j (k + 1)) w1 (w7.setCell ⟨p0, 13, none⟩ v7))) := ⟨fun w4 vF v7 w7 h1 h2 h3 h4 h5 => by
            rw [← hm] at h3
            obtain ⟨a1, a2, a3⟩ := h1.fin hk' hg hjl hkp HJ.out.2.1 HJ.out.2.2.1 hpre (by rw [hc0]) h2 h3 h4 h5
            exact ⟨a1, a2, ⟨a3⟩⟩⟩
          have HMID : As (∀ w4 vF, BegM U cf (bSt cf s j k) Lk p0 wr wk (c0 + 1) k (.slice A2 n2 c2) AV' vF w4 → w4.cell? ⟨wr.heap.size, 4, none⟩ = some (.slice none 0 0) ∧ w4.frozen? ⟨wr.heap.size, 4, none⟩ = false ∧ wr.heap.size < w4.heap.size ∧ w4.cell? ⟨p0, 13, none⟩ = some AV' ∧ p0 ≠ wr.heap.size ∧
              As (((w4.setCell ⟨wr.heap.size, 4, none⟩ vF).alloc (.cells #[ptr wr.heap.size] 97)).ownsRow 0 97 1 AV' m (Lk.az.map ptr))) := ⟨fun w4 vF h1 => by
            obtain ⟨a1, a2, a3, a4, a5, a6⟩ := h1.mid
            rw [hm] at a6
            exact ⟨a1, a2, a3, a4, a5, ⟨a6⟩⟩⟩
          obtain ⟨AA, cA, rfl, _⟩ := own_rd hk'.aq.1
          rw [hm] at q13 HFIN HMID HEN
          have hgo4 : wk = 2 ∨ (wk ≠ 2 ∧ k = sh) := by
            by_cases e : wk = 2
            · exact .inl e
            · exact .inr ⟨e, hgo.resolve_left (fun h4 => e (by rw [← HWK.out]; exact (wkind_find HJ.out.1).2 h4))⟩
          have k1 : ((wk != 2) && ((k : Int) != (sh : Int))) = false := by
            rcases hgo4 with rfl | ⟨_, rfl⟩ <;> simp
          have KX : As (∀ wX, Kp [] (wr.setCell ⟨L.b, 7, none⟩ (.int .i64 ((c0 : Int) + 1))) wX → wX.cell? ⟨p0, 6, none⟩ = some (.int .i64 wk) ∧ wX.cell? ⟨L.b, 7, none⟩ = some (.int .i64 ((c0 : Int) + 1))) := ⟨fun wX kX => by
            have kk : Kp [L.b] wr (wr.setCell ⟨L.b, 7, none⟩ (.int .i64 ((c0 : Int) + 1))) := (Kp.refl [L.b] wr).setCell (.inl (by simp)) _
            have h1 := heap_setCell_same wr L.b 7 _ _ (.int .i64 ((c0 : Int) + 1)) hdk
            exact ⟨kX.cell (kk.cell q6 (by simpa using hpb)) (by simp), blk_cell (kX.blk h1 (by simp)) 7 rfl⟩⟩
          have i2 : (0 : Int) ≤ (c0 : Int) := by omega
          have i3 : (c0 : Int) ≤ 1099511627776 := by omega
          clear hgo hc0 hdk hq hk' hg hjl hkp hjl' hpre hW3 hW3' k3 hjd hm HC1 hcb
          have hgo5 : (wk != 2) = false ∨ ((wk != 2) = true ∧ ((k : Int) != (sh : Int)) = false) := by
            rcases hgo4 with rfl | ⟨e, rfl⟩
            · exact .inl rfl
            · exact .inr ⟨by simpa using e, by simp⟩
          clear hgo4 k1
          rcases hgo5 with k1 | ⟨k1, k2⟩
          all_goals
            go_upto_region 11 with fail
            go_region_held3 (fun wX => wX.cell? ⟨p0, 6, none⟩ = some (.int .i64 wk) ∧ wX.cell? ⟨L.b, 7, none⟩ = some (.int .i64 ((c0 : Int) + 1))) (first | exact KX.out _ (Kp.refl [] _) | exact KX.out _ (Kp.refl [] _).drew | exact KX.out _ ((Kp.refl [] _).drewN _) | exact KX.out _ ((Kp.refl [] _).drew.alloc _) | exact KX.out _ (((Kp.refl [] _).drewN _).alloc _) | exact KX.out _ (((Kp.refl [] _).alloc _).drewN _) | exact KX.out _ ((Kp.refl [] _).alloc _)) (fail)
            go_wp2_with (first
              | (go_at_call 76; rw [← HW3.out]; refine (HEN.out _ (Kp.refl [] _).drew).mono ?_; rintro e w4 ⟨AF, nF, cF, rfl, HB4⟩; obtain ⟨z0, z1, z2, z3, z4, HO4⟩ := HMID.out w4 _ HB4.out.1)
              | (at_builtin; refine wpList_app rfl (.tmp 97) (.tmp 99) 90 rfl 97 (.pointer none) 1 8 Tryz.underlying90 info_ask rfl (by decide) (.slice AA m cA) m (Lk.az.map ptr) rfl HO4.out (some ⟨w4.heap.size, 0, none⟩) 1 1 [ptr wr.heap.size] rfl rfl (by have := rd_new (w4.setCell ⟨wr.heap.size, 4, none⟩ (.slice AF nF cF)) [ptr wr.heap.size] 97; rw [World.size_setCell] at this; exact this) (by simp) (by simp [ptr, Value.oneCell']) (by omega) (by omega) ?_; intro v7 w7 o7 k7 a7 _; obtain ⟨A7, c7, rfl, _⟩ := own_rd o7; obtain ⟨y0, y1, HZ⟩ := HFIN.out w4 _ _ w7 HB4.out.1 HB4.out.2 o7 k7 (by simpa using a7); clear o7 k7 a7))
            go_roundw
            case rel => exact ⟨k + 1, by go_num, by omega, HZ⟩
            case measure => simp [intOf]; omega
        · have hw2 : wk ≠ 2 := fun e => hgo (.inl ((wkind_find HJ.out.1).1 (HWK.out.trans e)))
          have k1 : (wk != 2) = true := by simpa using hw2
          have k2 : ((k : Int) != (sh : Int)) = true := by
            have : ¬ k = sh := fun e => hgo (.inr e)
            simp only [bne_iff_ne, ne_eq]
            omega
          have HX : As (bSt cf s j (k + 1) = bSt cf s j k) := ⟨by
            have h4 : j.kind ≠ 4 := fun e => hgo (.inl e)
            have hK := HK.out.1 h4
            have hne : k ≠ shardOf (kb j.key) cf.shards.length := by
              rw [HN.out, ← hK, HSHV.out]
              exact fun e => hgo (.inr e)
            simp only [bSt, pre_miss h4 hne]⟩
          clear hgo hw2 hc0 hdk hq hk' hg hjl hkp hjl'
          go_wp2
          go_roundw
          case rel => exact ⟨k + 1, by go_num, by omega, ⟨by rw [HX.out]; exact HB.out⟩⟩
          case measure => simp [intOf]; omega
      · obtain rfl : k = n := by omega
        go_wp2
        go_end0
        refine ⟨rfl, ?_⟩
        obtain ⟨Lk, hcs, hg, hjl, hkp⟩ := HB.out
        have hl := HOK.out.cfg.len
        rw [← HN.out] at hcs
        simp only [bSt, pre_all (show 0 < cf.shards.length by omega)] at hcs
        exact ⟨Lk, hcs, ⟨hg.1, fun x hx => (hg.2 x hx).imp id (fun e => by have := HWW.out.size; omega)⟩, hjl, HWW.out.mono (by simp) |>.trans hkp (fun x hx => .inl hx)⟩
end Go.Proofs.YtdiljpdohmeceaaGreat.co

/- coord: (*Coord).ends. -/
namespace Go.Proofs.YtdiljpdohmeceaaGreat.co
open Go.RowKit H O opk frame wir

def resOf (m : Nat) (e : Int) (was has : Bool) (text : List Int) (ms : List (ByteArray × Int)) : Res := if e = 0 then ⟨m, 0, was, has, text, ms⟩ else ⟨m, e, false, false, [], []⟩
def EndsI (U : List Nat) (L : Lay) (cf : Cfg) (s' : Cs) (ps : List Nat) (w w' : World) : Prop := ∃ L', CoSt U w' L' cf s' ∧ Grew w L L' ∧ L'.js = ps ∧ Kp L.all w w'

set_option maxHeartbeats 8000000 in
set_option maxRecDepth 100000 in
theorem ends_any (U : List Nat) (w0 w : World) (L : Lay) (cf : Cfg) (s : Cs) (κ : Nat → Nat) (VS VW VJ VD MV AV : Value) (l : List (ByteArray × Int)) (j : Job) (jr : List Job) (p0 : Nat) (ps : List Nat) (h : CoP U w0 L cf s κ VS VW VJ VD MV AV l) (hj : s.jobs = j :: jr) (hjs : L.js = p0 :: ps)
    (k0 : Kp (p0 :: L.gm.toList) w0 w) (was has : Bool) (tv mv' c6 c7 c8 c9 c10 c11 c12 c13 : Value) (text : List Int) (ms : List (ByteArray × Int)) (e : Int)
    (hp : w.heap[p0]? = some (.cells #[.int .i64 (s.ended : Int), .int .i64 0, .bool was, .bool has, tv, mv', c6, c7, c8, c9, c10, c11, c12, c13] 92 (0, 0)))
    (htv : BSl (L.b :: L.gw :: (L.gj.toList ++ L.js) ++ U ++ L.gd.toList) w tv text) (hmv : MSl (L.b :: L.gw :: (L.gj.toList ++ L.js) ++ U ++ L.gd.toList) w mv' ms) (hdl : s.done.length ≤ 1000000) :
    Calls Tryz.prog 32 #[.pointer (some ⟨L.b, 0, none⟩), .int .i64 e] w fun en w' => en = .returned (.tuple #[]) ∧ EndsI U L cf (endJob s (resOf s.ended e was has text ms)) ps w0 w' := by
  obtain ⟨Ax, ct, rfl, hrt, hlt, hmt, hnt⟩ := id htv
  obtain ⟨Am, cm, rfl, hrm, hlm, hmm, hnm⟩ := id hmv
  have hp7 := h.sep.js p0 (by rw [hjs]; simp)
  have hb1 := h.sep.b
  have hbp : L.b ≠ p0 := fun e => by rw [e] at hb1; omega
  have hbg : L.b ∉ p0 :: L.gm.toList := by
    simp only [List.mem_cons, Option.mem_toList, not_or]
    refine ⟨hbp, fun e => ?_⟩
    have := h.sep.gm _ e
    omega
  have hbw := k0.blk h.hd hbg
  have hq : Que w VJ L.gj (p0 :: ps) := by
    rw [← hjs]
    refine h.jq.kp k0 (fun x hx hm => ?_)
    have h3 := h.sep.gj x hx
    rcases List.mem_cons.1 hm with e | e
    · rw [e] at h3; omega
    · have := h.sep.gm x (by simpa using e); omega
  rcases id hq with ⟨_, _, h0⟩ | ⟨qb, qo, qc, cur, hgj, rfl, hcur, hql, hqs, hqm, hqc⟩
  · cases h0
  have q0 : w.cell? ⟨qb, qo, none⟩ = some (.pointer (some ⟨p0, 0, none⟩)) := blk_cell hcur _ (hqc 0 p0 rfl)
  obtain ⟨vs, hdo, hdg, hdr⟩ := h.dn
  obtain ⟨AD, cD, rfl, hlD, hmD, _, _⟩ := own_rd hdo
  have hgdl : ∀ x, L.gd = some x → x ∉ p0 :: L.gm.toList := by
    intro x hx hm
    have h3 := h.sep.gd x hx
    rcases List.mem_cons.1 hm with e | e
    · rw [e] at h3; omega
    · have := h.sep.gm x (by simpa using e); omega
  have hdow := k0.own hdo (fun x e => hgdl x (by rw [← hdg]; exact e))
  obtain ⟨nd, hnd⟩ : ∃ n, s.done.length = n := ⟨_, rfl⟩
  rw [hnd] at hbw hdow hdl hlD hdg
  have hkgd : ∀ x, (Value.slice AD nd cD).ownBlock = some x → L.gd = some x := fun x e => by rw [hdg] at e; exact e
  have hqn : (p0 :: ps).length = ps.length + 1 := rfl
  rw [hqn] at hbw hql
  obtain ⟨m, hm⟩ : ∃ m, ps.length = m := ⟨_, rfl⟩
  rw [hm] at hbw hql
  obtain ⟨VJ1, hVJ1⟩ : ∃ v, (if qc = 1 then Value.slice (some ⟨qb, qo, none⟩) 0 0 else .slice (some ⟨qb, qo + 1, none⟩) m (qc - 1)) = v := ⟨_, rfl⟩
  have hpl : p0 < w.heap.size := lt_of_block hp
  have hbl : L.b < w.heap.size := lt_of_block hbw
  have hql2 : qb < w.heap.size := lt_of_block hcur
  have hqb : κ qb = 3 := (h.sep.gj qb hgj).1
  have hqW : ∀ W : World, W.heap[qb]? = some (.cells cur 88 (0, 0)) → Que W VJ1 L.gj ps := by
    intro W hW
    rw [← hVJ1]
    split
    · have h0 : ps.length = 0 := by omega
      obtain rfl : ps = [] := List.eq_nil_of_length_eq_zero h0
      exact .inr ⟨qb, qo, 0, cur, hgj, rfl, hW, Nat.le_refl _, by omega, Nat.zero_le _, by simp⟩
    · refine .inr ⟨qb, qo + 1, qc - 1, cur, hgj, by rw [hm], hW, by omega, by omega, by omega, fun i p hi => ?_⟩
      have := hqc (i + 1) p hi
      rwa [show qo + (i + 1) = qo + 1 + i by omega] at this
  have HFIN : As (∀ (W w7 : World) (v7 : Value) (rv : List Value) (r : Res), Kp [] w W → (∀ S2, (∀ x ∈ S2, x ∈ L.b :: L.gw :: (L.gj.toList ++ L.js) ++ U ++ L.gd.toList) → ResOk S2 w r rv) → w7.ownsRow 0 61 6 v7 (nd + 1) (vs ++ rv) →
      Kp (Value.slice AD nd cD).ownBlock.toList (W.alloc (.cells rv.toArray 61)) w7 → At (W.heap.size + 1) (Value.slice AD nd cD).ownBlock v7.ownBlock →
      (w7.cell? ⟨L.b, 8, none⟩ = some (.slice AD nd cD) ∧ w7.frozen? ⟨L.b, 8, none⟩ = false ∧ w7.cell? ⟨L.b, 5, none⟩ = some (.slice (some ⟨qb, qo, none⟩) (m + 1) qc) ∧ w7.frozen? ⟨L.b, 5, none⟩ = false) ∧ As (EndsI U L cf (endJob s r) ps w0 ((w7.setCell ⟨L.b, 8, none⟩ v7).setCell ⟨L.b, 5, none⟩ VJ1))) := ⟨by
    intro W w7 v7 rv r kW hr o7 k7 a7
    have hbn : L.b ∉ (Value.slice AD nd cD).ownBlock.toList := by
      intro e
      have := hkgd _ (by simpa using e)
      have := h.sep.gd _ this
      omega
    have kA : Kp [] w (W.alloc (.cells rv.toArray 61)) := kW.alloc _
    have hb7 := k7.blk (kA.blk hbw (by simp)) hbn
    have kB : Kp [L.b] w7 ((w7.setCell ⟨L.b, 8, none⟩ v7).setCell ⟨L.b, 5, none⟩ VJ1) := ((Kp.refl [L.b] w7).setCell (.inl (by simp)) _).setCell (.inl (by simp)) _
    have hbF : ((w7.setCell ⟨L.b, 8, none⟩ v7).setCell ⟨L.b, 5, none⟩ VJ1).heap[L.b]? = _ := heap_setCell_same _ L.b 5 _ _ VJ1 (heap_setCell_same w7 L.b 8 _ _ v7 hb7)
    have kC : Kp (L.b :: L.gd.toList) w ((w7.setCell ⟨L.b, 8, none⟩ v7).setCell ⟨L.b, 5, none⟩ VJ1) := by
      refine ((kA.mono (T := L.b :: L.gd.toList) (by simp)).trans k7 (fun x hx => .inl ?_)).trans kB (by simp)
      have := hkgd x (by simpa using hx)
      simp [this]
    have kF : Kp (L.b :: p0 :: (L.gd.toList ++ L.gm.toList)) w0 ((w7.setCell ⟨L.b, 8, none⟩ v7).setCell ⟨L.b, 5, none⟩ VJ1) := by
      refine (k0.mono (T := L.b :: p0 :: (L.gd.toList ++ L.gm.toList)) (fun x hx => .inl ?_)).trans kC (fun x hx => .inl ?_)
      · simp only [List.mem_cons, List.mem_append] at hx ⊢
        rcases hx with e | e
        · simp [e]
        · simp [e]
      · simp only [List.mem_cons, List.mem_append] at hx ⊢
        rcases hx with e | e
        · simp [e]
        · simp [e]
    have hat : ∀ x, v7.ownBlock = some x → L.gd = some x ∨ w.heap.size + 1 ≤ x ∧ x < w7.heap.size := by
      intro x e
      have hx7 := own_lt o7 x e
      rcases a7 with e2 | ⟨y, e2, hy⟩
      · rw [e2] at e
        exact .inl (hkgd x e)
      · rw [e2] at e
        cases e
        have := kW.size
        exact .inr ⟨by omega, hx7⟩
    have s0 := k0.size
    have sB := kB.size
    have ho : ((w7.setCell ⟨L.b, 8, none⟩ v7).setCell ⟨L.b, 5, none⟩ VJ1).ownsRow 0 61 6 v7 (nd + 1) (vs ++ rv) := by
      refine kB.own o7 (fun x e hm => ?_)
      simp only [List.mem_singleton] at hm
      subst hm
      rcases hat _ e with e2 | e2
      · have := h.sep.gd _ e2; omega
      · omega
    have hcF : ((w7.setCell ⟨L.b, 8, none⟩ v7).setCell ⟨L.b, 5, none⟩ VJ1).heap[qb]? = some (.cells cur 88 (0, 0)) := by
      refine kC.blk hcur (fun hm => ?_)
      rcases List.mem_cons.1 hm with e | e
      · rw [e] at hqb; omega
      · have := h.sep.gd qb (by simpa using e); omega
    have hS2 : ∀ S2, (∀ x ∈ S2, x ∈ L.b :: L.gw :: (L.gj.toList ++ L.js) ++ U ∨ v7.ownBlock = some x) → DoneAt S2 ((w7.setCell ⟨L.b, 8, none⟩ v7).setCell ⟨L.b, 5, none⟩ VJ1) v7 v7.ownBlock (s.done ++ [r]) := by
      intro S2 hS
      refine ⟨vs ++ rv, by rw [List.length_append, hnd]; exact ho, rfl, RsOk.snoc ?_ ?_⟩
      · refine (hr _ (fun x hx => hx)).kp kC (fun x hx => .inl ?_) (fun x hx => ?_)
        · simp only [List.mem_cons, List.mem_append, List.cons_append] at hx ⊢
          rcases hx with e | e
          · simp [e]
          · simp [e]
        · rcases hS x hx with e | e
          · exact .inl (List.mem_append.2 (.inl e))
          · rcases hat x e with e2 | e2
            · exact .inl (by simp [e2])
            · exact .inr (by omega)
      · refine hdr.kp kF (fun x hx => .inl ?_) (fun x hx => ?_)
        · refine List.mem_append.2 (.inl (Lay.mem.2 ?_))
          simp only [List.mem_cons, List.mem_append, Option.mem_toList] at hx
          rcases hx with e | e | e | e
          · simp [e]
          · simp [hjs, e]
          · simp [e]
          · simp [e]
        · rcases hS x hx with e | e
          · refine .inl ?_
            simp only [List.mem_cons, List.mem_append, List.cons_append, Option.mem_toList] at e ⊢
            rcases e with e | e | (e | e) | e
            · exact .inl (Lay.mem.2 (by simp [e]))
            · exact .inl (Lay.mem.2 (by simp [e]))
            · exact .inl (Lay.mem.2 (by simp [e]))
            · exact .inl (Lay.mem.2 (by simp [e]))
            · exact .inr e
          · rcases hat x e with e2 | e2
            · exact .inl (List.mem_append.2 (.inl (Lay.mem.2 (by simp [e2]))))
            · exact .inr (by omega)
    have hqF := hqW _ hcF
    obtain ⟨L', g1, g2, g3⟩ := h.ends (r := r) hj hjs kF hbF hqF (fun x e => (hat x e).imp id (fun e2 => ⟨by omega, by omega⟩)) hS2
    refine ⟨⟨blk_cell hb7 8 rfl, blk_free hb7 8, blk_cell hb7 5 rfl, blk_free hb7 5⟩, ⟨L', g1, g2, g3, kF.mono (fun x hx => .inl ?_)⟩⟩
    refine Lay.mem.2 ?_
    simp only [List.mem_cons, List.mem_append, Option.mem_toList] at hx
    rcases hx with e | e | e | e
    · simp [e]
    · simp [hjs, e]
    · simp [e]
    · simp [e]⟩
  have p1 : w.cell? ⟨p0, 0, none⟩ = some (.int .i64 (s.ended : Int)) := blk_cell hp 0 rfl
  have p2 : w.cell? ⟨p0, 1, none⟩ = some (.int .i64 0) := blk_cell hp 1 rfl
  have p3 : w.cell? ⟨p0, 2, none⟩ = some (.bool was) := blk_cell hp 2 rfl
  have p4 : w.cell? ⟨p0, 3, none⟩ = some (.bool has) := blk_cell hp 3 rfl
  have p5 : w.cell? ⟨p0, 4, none⟩ = some (.slice Ax text.length ct) := blk_cell hp 4 rfl
  have p6 : w.cell? ⟨p0, 5, none⟩ = some (.slice Am ms.length cm) := blk_cell hp 5 rfl
  have d5 : w.cell? ⟨L.b, 5, none⟩ = some (.slice (some ⟨qb, qo, none⟩) (m + 1) qc) := blk_cell hbw 5 rfl
  have d8 : w.cell? ⟨L.b, 8, none⟩ = some (.slice AD nd cD) := blk_cell hbw 8 rfl
  have hbn : ¬ L.b = w.heap.size := by omega
  have hqn2 : ¬ qb = w.heap.size := by omega
  have HP := As.mk hp
  have HTV := As.mk htv
  have HMV := As.mk hmv
  have HDO := As.mk hdow
  have hcs : (qc = 1 ∧ m = 0 ∧ VJ1 = .slice (some ⟨qb, qo, none⟩) 0 0) ∨ (1 < qc ∧ VJ1 = .slice (some ⟨qb, qo + 1, none⟩) m (qc - 1)) := by
    by_cases e : qc = 1
    · exact .inl ⟨e, by omega, by rw [← hVJ1, if_pos e]⟩
    · exact .inr ⟨by omega, by rw [← hVJ1, if_neg e]⟩
  have hrok0 : As (e ≠ 0 → ∀ S2, (∀ x ∈ S2, x ∈ L.b :: L.gw :: (L.gj.toList ++ L.js) ++ U ++ L.gd.toList) → ResOk S2 w (resOf s.ended e was has text ms) [.int .i64 (s.ended : Int), .int .i64 e, .bool false, .bool false, .slice none 0 0, .slice none 0 0]) := ⟨fun he S2 _ => by
    rw [resOf, if_neg he]
    exact ⟨_, _, rfl, BSl.nil _ _, MSl.nil _ _⟩⟩
  have hrok1 : As (e = 0 → ∀ S2, (∀ x ∈ S2, x ∈ L.b :: L.gw :: (L.gj.toList ++ L.js) ++ U ++ L.gd.toList) → ResOk S2 w (resOf s.ended e was has text ms) [.int .i64 (s.ended : Int), .int .i64 e, .bool was, .bool has, .slice Ax text.length ct, .slice Am ms.length cm]) := ⟨fun he S2 hS => by
    rw [resOf, if_pos he, he]
    exact ⟨_, _, rfl, htv.kp (Kp.refl [] w) (by simp) (fun x hx => .inl (hS x hx)), hmv.kp (Kp.refl [] w) (by simp) (fun x hx => .inl (hS x hx))⟩⟩
  clear h hj hjs k0 hp htv hmv hrt hlt hmt hnt hrm hlm hmm hnm hp7 hb1 hbp hbg hbw hq hgj hcur hqs hqm hqc hdo hdg hdr hgdl hdow hnd hkgd hqn hm hVJ1 hqb hqW hlD hmD
  rcases hcs with ⟨rfl, rfl, rfl⟩ | ⟨hq2, rfl⟩
  · skip
    by_cases he : e = 0
    · have be : (e != 0) = false := by simp [he]
      have HE := As.mk he
      clear he
      go_enter Tryz.func32, Tryz.ntmps32
      go_upto_region 4 with fail
      obtain ⟨W, hW⟩ : ∃ W, W = w.alloc (.cells #[.int .i64 (s.ended : Int), .int .i64 e, .bool was, .bool has, .slice Ax text.length ct, .slice Am ms.length cm] 61) := ⟨_, rfl⟩
      rw [← hW]
      have kW : Kp [] w W := by rw [hW]; exact (Kp.refl [] w).alloc _
      have hRb : W.heap[w.heap.size]? = some (.cells #[.int .i64 (s.ended : Int), .int .i64 e, .bool was, .bool has, .slice Ax text.length ct, .slice Am ms.length cm] 61 (0, 0)) := by rw [hW]; exact heap_alloc_new w _
      have HK := As.mk kW
      have HRB := As.mk hRb
      have KX : As (∀ wX, Kp [] W wX → wX.cell? ⟨L.b, 8, none⟩ = some (.slice AD nd cD) ∧ wX.cell? ⟨w.heap.size, 0, none⟩ = some (.int .i64 (s.ended : Int)) ∧ wX.cell? ⟨w.heap.size, 1, none⟩ = some (.int .i64 e) ∧ wX.cell? ⟨w.heap.size, 2, none⟩ = some (.bool was) ∧ wX.cell? ⟨w.heap.size, 3, none⟩ = some (.bool has) ∧ wX.cell? ⟨w.heap.size, 4, none⟩ = some (.slice Ax text.length ct) ∧ wX.cell? ⟨w.heap.size, 5, none⟩ = some (.slice Am ms.length cm)) := ⟨fun wX kX => by
        have hX := kX.blk hRb (by simp)
        exact ⟨(kW.trans kX (by simp)).cell d8 (by simp), blk_cell hX 0 rfl, blk_cell hX 1 rfl, blk_cell hX 2 rfl, blk_cell hX 3 rfl, blk_cell hX 4 rfl, blk_cell hX 5 rfl⟩⟩
      have HOW : As (∀ wX, Kp [] W wX → wX.ownsRow 0 61 6 (.slice AD nd cD) nd vs) := ⟨fun wX kX => (kW.trans kX (by simp)).own HDO.out (by simp)⟩
      have HRD : As (Rd (W.alloc (.cells #[.int .i64 (s.ended : Int), .int .i64 e, .bool was, .bool has, .slice Ax text.length ct, .slice Am ms.length cm] 61)).drew (some ⟨W.heap.size, 0, none⟩) [.int .i64 (s.ended : Int), .int .i64 e, .bool was, .bool has, .slice Ax text.length ct, .slice Am ms.length cm]) := ⟨((Kp.refl [] _).drew).rd_new (rd_new W [.int .i64 (s.ended : Int), .int .i64 e, .bool was, .bool has, .slice Ax text.length ct, .slice Am ms.length cm] 61) (by simp)⟩
      have HRK : As (∀ S2, (∀ x ∈ S2, x ∈ L.b :: L.gw :: (L.gj.toList ++ L.js) ++ U ++ L.gd.toList) → ResOk S2 w (resOf s.ended e was has text ms) [.int .i64 (s.ended : Int), .int .i64 e, .bool was, .bool has, .slice Ax text.length ct, .slice Am ms.length cm]) := ⟨hrok1.out HE.out⟩
      clear hW hRb kW d5 d8
      obtain ⟨g0, g1, g2, g3, g4, g5, g6⟩ := KX.out W (Kp.refl [] _)
      have n0 : L.b < W.heap.size := World.block_lt_of_cell? W _ g0
      have n1 : ¬ L.b = W.heap.size := by omega
      have n2 : w.heap.size < W.heap.size := World.block_lt_of_cell? W _ g1
      have n3 : ¬ w.heap.size = W.heap.size := by omega
      go_region_law (first | (refine step_app rfl (.tmp 26) (.tmp 28) 57 rfl 61 (.agg #[.int .i64 0, .int .i64 0, .bool false, .bool false, .slice none 0 0, .slice none 0 0]) 6 72 Tryz.underlying57 info_res rfl (by decide) (.slice AD nd cD) nd vs rfl (HOW.out _ (by first | exact ((Kp.refl [] _).alloc _).drew | exact ((Kp.refl [] _).drew.alloc _) | exact ((Kp.refl [] _).alloc _) | exact (((Kp.refl [] _).alloc _).drewN _) | exact (((Kp.refl [] _).drewN _).alloc _))) (some ⟨W.heap.size, 0, none⟩) 1 1 [.int .i64 (s.ended : Int), .int .i64 e, .bool was, .bool has, .slice Ax text.length ct, .slice Am ms.length cm] rfl rfl HRD.out (by simp) (by simp [Value.oneCell']) (by omega) (by omega) ?_; intro v7 w7 o7 k7 a7; obtain ⟨A7, c7, rfl, _⟩ := own_rd o7; obtain ⟨⟨y0, y1, y2, y3⟩, HZ⟩ := HFIN.out W w7 _ _ _ HK.out HRK.out o7 ((Kp.refl _ _).drew.trans k7 (fun x hx => .inl hx)) (by simpa using a7); clear o7 k7 a7))
      all_goals
        go_wp2_with fail
        go_end0
        exact ⟨rfl, HZ.out⟩
    · have be : (e != 0) = true := by simpa using he
      have HE := As.mk he
      clear he
      go_enter Tryz.func32, Tryz.ntmps32
      go_upto_region 4 with fail
      obtain ⟨W, hW⟩ : ∃ W, W = w.alloc (.cells #[.int .i64 (s.ended : Int), .int .i64 e, .bool false, .bool false, .slice none 0 0, .slice none 0 0] 61) := ⟨_, rfl⟩
      rw [← hW]
      have kW : Kp [] w W := by rw [hW]; exact (Kp.refl [] w).alloc _
      have hRb : W.heap[w.heap.size]? = some (.cells #[.int .i64 (s.ended : Int), .int .i64 e, .bool false, .bool false, .slice none 0 0, .slice none 0 0] 61 (0, 0)) := by rw [hW]; exact heap_alloc_new w _
      have HK := As.mk kW
      have HRB := As.mk hRb
      have KX : As (∀ wX, Kp [] W wX → wX.cell? ⟨L.b, 8, none⟩ = some (.slice AD nd cD) ∧ wX.cell? ⟨w.heap.size, 0, none⟩ = some (.int .i64 (s.ended : Int)) ∧ wX.cell? ⟨w.heap.size, 1, none⟩ = some (.int .i64 e) ∧ wX.cell? ⟨w.heap.size, 2, none⟩ = some (.bool false) ∧ wX.cell? ⟨w.heap.size, 3, none⟩ = some (.bool false) ∧ wX.cell? ⟨w.heap.size, 4, none⟩ = some (.slice none 0 0) ∧ wX.cell? ⟨w.heap.size, 5, none⟩ = some (.slice none 0 0)) := ⟨fun wX kX => by
        have hX := kX.blk hRb (by simp)
        exact ⟨(kW.trans kX (by simp)).cell d8 (by simp), blk_cell hX 0 rfl, blk_cell hX 1 rfl, blk_cell hX 2 rfl, blk_cell hX 3 rfl, blk_cell hX 4 rfl, blk_cell hX 5 rfl⟩⟩
      have HOW : As (∀ wX, Kp [] W wX → wX.ownsRow 0 61 6 (.slice AD nd cD) nd vs) := ⟨fun wX kX => (kW.trans kX (by simp)).own HDO.out (by simp)⟩
      have HRD : As (Rd (W.alloc (.cells #[.int .i64 (s.ended : Int), .int .i64 e, .bool false, .bool false, .slice none 0 0, .slice none 0 0] 61)).drew (some ⟨W.heap.size, 0, none⟩) [.int .i64 (s.ended : Int), .int .i64 e, .bool false, .bool false, .slice none 0 0, .slice none 0 0]) := ⟨((Kp.refl [] _).drew).rd_new (rd_new W [.int .i64 (s.ended : Int), .int .i64 e, .bool false, .bool false, .slice none 0 0, .slice none 0 0] 61) (by simp)⟩
      have HRK : As (∀ S2, (∀ x ∈ S2, x ∈ L.b :: L.gw :: (L.gj.toList ++ L.js) ++ U ++ L.gd.toList) → ResOk S2 w (resOf s.ended e was has text ms) [.int .i64 (s.ended : Int), .int .i64 e, .bool false, .bool false, .slice none 0 0, .slice none 0 0]) := ⟨hrok0.out HE.out⟩
      clear hW hRb kW d5 d8
      obtain ⟨g0, g1, g2, g3, g4, g5, g6⟩ := KX.out W (Kp.refl [] _)
      have n0 : L.b < W.heap.size := World.block_lt_of_cell? W _ g0
      have n1 : ¬ L.b = W.heap.size := by omega
      have n2 : w.heap.size < W.heap.size := World.block_lt_of_cell? W _ g1
      have n3 : ¬ w.heap.size = W.heap.size := by omega
      go_region_law (first | (refine step_app rfl (.tmp 26) (.tmp 28) 57 rfl 61 (.agg #[.int .i64 0, .int .i64 0, .bool false, .bool false, .slice none 0 0, .slice none 0 0]) 6 72 Tryz.underlying57 info_res rfl (by decide) (.slice AD nd cD) nd vs rfl (HOW.out _ (by first | exact ((Kp.refl [] _).alloc _).drew | exact ((Kp.refl [] _).drew.alloc _) | exact ((Kp.refl [] _).alloc _) | exact (((Kp.refl [] _).alloc _).drewN _) | exact (((Kp.refl [] _).drewN _).alloc _))) (some ⟨W.heap.size, 0, none⟩) 1 1 [.int .i64 (s.ended : Int), .int .i64 e, .bool false, .bool false, .slice none 0 0, .slice none 0 0] rfl rfl HRD.out (by simp) (by simp [Value.oneCell']) (by omega) (by omega) ?_; intro v7 w7 o7 k7 a7; obtain ⟨A7, c7, rfl, _⟩ := own_rd o7; obtain ⟨⟨y0, y1, y2, y3⟩, HZ⟩ := HFIN.out W w7 _ _ _ HK.out HRK.out o7 ((Kp.refl _ _).drew.trans k7 (fun x hx => .inl hx)) (by simpa using a7); clear o7 k7 a7))
      all_goals
        go_wp2_with fail
        go_end0
        exact ⟨rfl, HZ.out⟩
  · have u0 : (1 : Int) ≤ (m : Int) + 1 := by omega
    have u1 : (1 : Int) < (qc : Int) := by omega
    have u2 : ¬ qc = 1 := by omega
    have u3 : (m : Int) + 1 ≤ (qc : Int) := by omega
    by_cases he : e = 0
    · have be : (e != 0) = false := by simp [he]
      have HE := As.mk he
      clear he
      go_enter Tryz.func32, Tryz.ntmps32
      go_upto_region 4 with fail
      obtain ⟨W, hW⟩ : ∃ W, W = w.alloc (.cells #[.int .i64 (s.ended : Int), .int .i64 e, .bool was, .bool has, .slice Ax text.length ct, .slice Am ms.length cm] 61) := ⟨_, rfl⟩
      rw [← hW]
      have kW : Kp [] w W := by rw [hW]; exact (Kp.refl [] w).alloc _
      have hRb : W.heap[w.heap.size]? = some (.cells #[.int .i64 (s.ended : Int), .int .i64 e, .bool was, .bool has, .slice Ax text.length ct, .slice Am ms.length cm] 61 (0, 0)) := by rw [hW]; exact heap_alloc_new w _
      have HK := As.mk kW
      have HRB := As.mk hRb
      have KX : As (∀ wX, Kp [] W wX → wX.cell? ⟨L.b, 8, none⟩ = some (.slice AD nd cD) ∧ wX.cell? ⟨w.heap.size, 0, none⟩ = some (.int .i64 (s.ended : Int)) ∧ wX.cell? ⟨w.heap.size, 1, none⟩ = some (.int .i64 e) ∧ wX.cell? ⟨w.heap.size, 2, none⟩ = some (.bool was) ∧ wX.cell? ⟨w.heap.size, 3, none⟩ = some (.bool has) ∧ wX.cell? ⟨w.heap.size, 4, none⟩ = some (.slice Ax text.length ct) ∧ wX.cell? ⟨w.heap.size, 5, none⟩ = some (.slice Am ms.length cm)) := ⟨fun wX kX => by
        have hX := kX.blk hRb (by simp)
        exact ⟨(kW.trans kX (by simp)).cell d8 (by simp), blk_cell hX 0 rfl, blk_cell hX 1 rfl, blk_cell hX 2 rfl, blk_cell hX 3 rfl, blk_cell hX 4 rfl, blk_cell hX 5 rfl⟩⟩
      have HOW : As (∀ wX, Kp [] W wX → wX.ownsRow 0 61 6 (.slice AD nd cD) nd vs) := ⟨fun wX kX => (kW.trans kX (by simp)).own HDO.out (by simp)⟩
      have HRD : As (Rd (W.alloc (.cells #[.int .i64 (s.ended : Int), .int .i64 e, .bool was, .bool has, .slice Ax text.length ct, .slice Am ms.length cm] 61)).drew (some ⟨W.heap.size, 0, none⟩) [.int .i64 (s.ended : Int), .int .i64 e, .bool was, .bool has, .slice Ax text.length ct, .slice Am ms.length cm]) := ⟨((Kp.refl [] _).drew).rd_new (rd_new W [.int .i64 (s.ended : Int), .int .i64 e, .bool was, .bool has, .slice Ax text.length ct, .slice Am ms.length cm] 61) (by simp)⟩
      have HRK : As (∀ S2, (∀ x ∈ S2, x ∈ L.b :: L.gw :: (L.gj.toList ++ L.js) ++ U ++ L.gd.toList) → ResOk S2 w (resOf s.ended e was has text ms) [.int .i64 (s.ended : Int), .int .i64 e, .bool was, .bool has, .slice Ax text.length ct, .slice Am ms.length cm]) := ⟨hrok1.out HE.out⟩
      clear hW hRb kW d5 d8
      obtain ⟨g0, g1, g2, g3, g4, g5, g6⟩ := KX.out W (Kp.refl [] _)
      have n0 : L.b < W.heap.size := World.block_lt_of_cell? W _ g0
      have n1 : ¬ L.b = W.heap.size := by omega
      have n2 : w.heap.size < W.heap.size := World.block_lt_of_cell? W _ g1
      have n3 : ¬ w.heap.size = W.heap.size := by omega
      go_region_law (first | (refine step_app rfl (.tmp 26) (.tmp 28) 57 rfl 61 (.agg #[.int .i64 0, .int .i64 0, .bool false, .bool false, .slice none 0 0, .slice none 0 0]) 6 72 Tryz.underlying57 info_res rfl (by decide) (.slice AD nd cD) nd vs rfl (HOW.out _ (by first | exact ((Kp.refl [] _).alloc _).drew | exact ((Kp.refl [] _).drew.alloc _) | exact ((Kp.refl [] _).alloc _) | exact (((Kp.refl [] _).alloc _).drewN _) | exact (((Kp.refl [] _).drewN _).alloc _))) (some ⟨W.heap.size, 0, none⟩) 1 1 [.int .i64 (s.ended : Int), .int .i64 e, .bool was, .bool has, .slice Ax text.length ct, .slice Am ms.length cm] rfl rfl HRD.out (by simp) (by simp [Value.oneCell']) (by omega) (by omega) ?_; intro v7 w7 o7 k7 a7; obtain ⟨A7, c7, rfl, _⟩ := own_rd o7; obtain ⟨⟨y0, y1, y2, y3⟩, HZ⟩ := HFIN.out W w7 _ _ _ HK.out HRK.out o7 ((Kp.refl _ _).drew.trans k7 (fun x hx => .inl hx)) (by simpa using a7); clear o7 k7 a7))
      all_goals
        go_wp2_with fail
        go_end0
        exact ⟨rfl, HZ.out⟩
    · have be : (e != 0) = true := by simpa using he
      have HE := As.mk he
      clear he
      go_enter Tryz.func32, Tryz.ntmps32
      go_upto_region 4 with fail
      obtain ⟨W, hW⟩ : ∃ W, W = w.alloc (.cells #[.int .i64 (s.ended : Int), .int .i64 e, .bool false, .bool false, .slice none 0 0, .slice none 0 0] 61) := ⟨_, rfl⟩
      rw [← hW]
      have kW : Kp [] w W := by rw [hW]; exact (Kp.refl [] w).alloc _
      have hRb : W.heap[w.heap.size]? = some (.cells #[.int .i64 (s.ended : Int), .int .i64 e, .bool false, .bool false, .slice none 0 0, .slice none 0 0] 61 (0, 0)) := by rw [hW]; exact heap_alloc_new w _
      have HK := As.mk kW
      have HRB := As.mk hRb
      have KX : As (∀ wX, Kp [] W wX → wX.cell? ⟨L.b, 8, none⟩ = some (.slice AD nd cD) ∧ wX.cell? ⟨w.heap.size, 0, none⟩ = some (.int .i64 (s.ended : Int)) ∧ wX.cell? ⟨w.heap.size, 1, none⟩ = some (.int .i64 e) ∧ wX.cell? ⟨w.heap.size, 2, none⟩ = some (.bool false) ∧ wX.cell? ⟨w.heap.size, 3, none⟩ = some (.bool false) ∧ wX.cell? ⟨w.heap.size, 4, none⟩ = some (.slice none 0 0) ∧ wX.cell? ⟨w.heap.size, 5, none⟩ = some (.slice none 0 0)) := ⟨fun wX kX => by
        have hX := kX.blk hRb (by simp)
        exact ⟨(kW.trans kX (by simp)).cell d8 (by simp), blk_cell hX 0 rfl, blk_cell hX 1 rfl, blk_cell hX 2 rfl, blk_cell hX 3 rfl, blk_cell hX 4 rfl, blk_cell hX 5 rfl⟩⟩
      have HOW : As (∀ wX, Kp [] W wX → wX.ownsRow 0 61 6 (.slice AD nd cD) nd vs) := ⟨fun wX kX => (kW.trans kX (by simp)).own HDO.out (by simp)⟩
      have HRD : As (Rd (W.alloc (.cells #[.int .i64 (s.ended : Int), .int .i64 e, .bool false, .bool false, .slice none 0 0, .slice none 0 0] 61)).drew (some ⟨W.heap.size, 0, none⟩) [.int .i64 (s.ended : Int), .int .i64 e, .bool false, .bool false, .slice none 0 0, .slice none 0 0]) := ⟨((Kp.refl [] _).drew).rd_new (rd_new W [.int .i64 (s.ended : Int), .int .i64 e, .bool false, .bool false, .slice none 0 0, .slice none 0 0] 61) (by simp)⟩
      have HRK : As (∀ S2, (∀ x ∈ S2, x ∈ L.b :: L.gw :: (L.gj.toList ++ L.js) ++ U ++ L.gd.toList) → ResOk S2 w (resOf s.ended e was has text ms) [.int .i64 (s.ended : Int), .int .i64 e, .bool false, .bool false, .slice none 0 0, .slice none 0 0]) := ⟨hrok0.out HE.out⟩
      clear hW hRb kW d5 d8
      obtain ⟨g0, g1, g2, g3, g4, g5, g6⟩ := KX.out W (Kp.refl [] _)
      have n0 : L.b < W.heap.size := World.block_lt_of_cell? W _ g0
      have n1 : ¬ L.b = W.heap.size := by omega
      have n2 : w.heap.size < W.heap.size := World.block_lt_of_cell? W _ g1
      have n3 : ¬ w.heap.size = W.heap.size := by omega
      go_region_law (first | (refine step_app rfl (.tmp 26) (.tmp 28) 57 rfl 61 (.agg #[.int .i64 0, .int .i64 0, .bool false, .bool false, .slice none 0 0, .slice none 0 0]) 6 72 Tryz.underlying57 info_res rfl (by decide) (.slice AD nd cD) nd vs rfl (HOW.out _ (by first | exact ((Kp.refl [] _).alloc _).drew | exact ((Kp.refl [] _).drew.alloc _) | exact ((Kp.refl [] _).alloc _) | exact (((Kp.refl [] _).alloc _).drewN _) | exact (((Kp.refl [] _).drewN _).alloc _))) (some ⟨W.heap.size, 0, none⟩) 1 1 [.int .i64 (s.ended : Int), .int .i64 e, .bool false, .bool false, .slice none 0 0, .slice none 0 0] rfl rfl HRD.out (by simp) (by simp [Value.oneCell']) (by omega) (by omega) ?_; intro v7 w7 o7 k7 a7; obtain ⟨A7, c7, rfl, _⟩ := own_rd o7; obtain ⟨⟨y0, y1, y2, y3⟩, HZ⟩ := HFIN.out W w7 _ _ _ HK.out HRK.out o7 ((Kp.refl _ _).drew.trans k7 (fun x hx => .inl hx)) (by simpa using a7); clear o7 k7 a7))
      all_goals
        go_wp2_with fail
        go_end0
        exact ⟨rfl, HZ.out⟩
end Go.Proofs.YtdiljpdohmeceaaGreat.co

/- coord: (*Coord).Tick: plain words. -/
namespace Go.Proofs.YtdiljpdohmeceaaGreat.co
open Go.RowKit H O opk frame wir

theorem newAsk_ok {cf : Cfg} {num : Nat} {j : Job} {t ctx c2 sh : Nat} (hj : JobOk j) (hc : 1 ≤ ctx ∧ ctx ≤ c2) (hs : sh < cf.shards.length) (ht : t ≤ cf.tries) : AskOk cf c2 (newAsk cf num j t ctx sh) := by
  have h1 := jdata_len (cf := cf) (num := num) hj
  have h2 := pay_len 113 [wkind j, (ctx : Int), (sh : Int)] (jdata cf num j) (by simp)
  have h3 := frame_len (p := pay 113 [wkind j, (ctx : Int), (sh : Int)] (jdata cf num j)) (by omega)
  exact ⟨hs, hc, ⟨by show (fEnc _).length ≤ 10000; omega, fEnc_wf (pay_wf (by decide) h1.2)⟩, ht, Nat.zero_le _⟩
theorem jshards_lt {cf : Cfg} {j : Job} (h : 0 < cf.shards.length) : ∀ x ∈ jshards cf j, x < cf.shards.length := by
  intro x hx
  unfold jshards at hx
  split at hx
  · simpa using hx
  · have : x = shardOf (kb j.key) cf.shards.length := by simpa using hx
    rw [this]
    exact shardOf_lt _ h
theorem jshards_len {cf : Cfg} {j : Job} (h : 1 ≤ cf.shards.length) : 1 ≤ (jshards cf j).length ∧ (jshards cf j).length ≤ cf.shards.length := by
  unfold jshards
  split
  · simp; omega
  · simp; omega
theorem mkAsks_ok {cf : Cfg} {num : Nat} {j : Job} {t ctx : Nat} (hj : JobOk j) (hl : 0 < cf.shards.length) (ht : t ≤ cf.tries) : ∀ a ∈ mkAsks cf num j t ctx (jshards cf j), AskOk cf (ctx + (jshards cf j).length) a := by
  intro a ha
  obtain ⟨i, hi, rfl⟩ := List.mem_iff_getElem.1 ha
  rw [mkAsks_len] at hi
  have h1 := mkAsks_get cf num j t ctx (jshards cf j) i hi
  have h2 := (List.getElem?_eq_some_iff.1 h1).2
  rw [h2]
  exact newAsk_ok hj ⟨by omega, by omega⟩ (jshards_lt hl _ (List.getElem_mem hi)) ht
theorem CsOk.asksTo {cf : Cfg} {s : Cs} (h : CsOk cf s) {ctx : Nat} {A : List Ask} (hA : ∀ a ∈ A, AskOk cf ctx a) (h8 : A.length ≤ 8) (hn : s.jobs ≠ []) : CsOk cf { s with ctx := ctx, asks := A } :=
  ⟨h.cfg, h.wlen, h.whom, h.jobs, hA, fun e => absurd e hn, h8⟩
/-- the first k of A1, then A0 -/
def mix (A1 A0 : List Ask) (k : Nat) : List Ask := A1.take k ++ A0.drop k
theorem mix_zero (A1 A0 : List Ask) : mix A1 A0 0 = A0 := by simp [mix]
theorem mix_all {A1 A0 : List Ask} (h : A1.length = A0.length) : mix A1 A0 A1.length = A1 := by rw [mix, List.take_length, List.drop_of_length_le (by omega), List.append_nil]
theorem mix_get {A1 A0 : List Ask} {k : Nat} {a : Ask} (h : A1.length = A0.length) (ha : A0[k]? = some a) : (mix A1 A0 k)[k]? = some a := by
  have hk := (List.getElem?_eq_some_iff.1 ha).1
  rw [mix, List.getElem?_append_right (by simp; omega), List.length_take, Nat.min_eq_left (by omega), List.getElem?_drop]
  simpa using ha
theorem mix_set {A1 A0 : List Ask} {k : Nat} {a : Ask} (h : A1.length = A0.length) (ha : A1[k]? = some a) : (mix A1 A0 k).set k a = mix A1 A0 (k + 1) := by
  obtain ⟨hk, hv⟩ := List.getElem?_eq_some_iff.1 ha
  rw [mix, List.set_append_right _ _ (by rw [List.length_take]; omega), List.length_take, Nat.min_eq_left (by omega), Nat.sub_self, mix, List.take_succ_eq_append_getElem hk, hv, List.append_assoc]
  congr 1
  rw [List.drop_eq_getElem_cons (by omega)]
  rfl
theorem mix_len {A1 A0 : List Ask} (h : A1.length = A0.length) (k : Nat) : (mix A1 A0 k).length = A0.length := by
  rw [mix, List.length_append, List.length_take, List.length_drop]
  omega
theorem mix_mem {A1 A0 : List Ask} {k : Nat} {a : Ask} (h : a ∈ mix A1 A0 k) : a ∈ A1 ∨ a ∈ A0 := by
  rcases List.mem_append.1 h with h | h
  · exact .inl (List.mem_of_mem_take h)
  · exact .inr (List.mem_of_mem_drop h)

theorem tick_none {cf : Cfg} {s : Cs} (h : s.jobs = []) : tick cf s = (s, []) := by simp only [tick, h]
theorem tick_new {cf : Cfg} {s : Cs} {j : Job} {r : List Job} (h : s.jobs = j :: r) (ha : s.asks = []) :
    tick cf s = ({ s with asks := mkAsks cf s.ended j 1 s.ctx (jshards cf j), ctx := s.ctx + (jshards cf j).length }, (mkAsks cf s.ended j 1 s.ctx (jshards cf j)).map (msgOf cf s.whom)) := by
  simp only [tick, h, ha, if_true]
theorem tick_go {cf : Cfg} {s : Cs} {j : Job} {r : List Job} (h : s.jobs = j :: r) (ha : s.asks ≠ []) {wh : List Nat} {az : List Ask} {out : List Msg} (hg : tkGo cf s.asks.length 0 s.whom s.asks [] = (wh, az, out, false)) :
    tick cf s = ({ s with whom := wh, asks := az }, out) := by
  simp only [tick, h, if_neg ha, hg]
theorem tick_end {cf : Cfg} {s : Cs} {j : Job} {r : List Job} (h : s.jobs = j :: r) (ha : s.asks ≠ []) {wh : List Nat} {az : List Ask} {out : List Msg} (hg : tkGo cf s.asks.length 0 s.whom s.asks [] = (wh, az, out, true)) :
    tick cf s = (endErr { s with whom := wh, asks := az } 14, out) := by
  simp only [tick, h, if_neg ha, hg]
theorem nextW_len (cf : Cfg) (wh : List Nat) (s : Nat) : (nextW cf wh s).length = wh.length := by simp [nextW]
theorem CsOk.next {cf : Cfg} {s : Cs} (h : CsOk cf s) {sh : Nat} (hs : sh < cf.shards.length) : CsOk cf { s with whom := nextW cf s.whom sh } := by
  refine ⟨h.cfg, by show (nextW _ _ _).length = _; rw [nextW_len]; exact h.wlen, fun i h1 h2 => ?_, h.jobs, h.asks, h.none, h.few⟩
  have h1' : i < (s.whom.set sh ((s.whom.getD sh 0 + 1) % (cf.shards.getD sh []).length)).length := h1
  show (s.whom.set sh ((s.whom.getD sh 0 + 1) % (cf.shards.getD sh []).length))[i]'h1' < _
  rw [List.getElem_set]
  split
  · rename_i e
    subst e
    rw [show cf.shards.getD sh [] = cf.shards[sh] from by simp [List.getD, hs]]
    exact Nat.mod_lt _ (by have := (h.cfg.grp _ (List.getElem_mem hs)).1; omega)
  · exact h.whom i (by rw [nextW_len] at h1; exact h1) h2

/-- what a Tick leaves -/
def TickPost (U : List Nat) (L : Lay) (cf : Cfg) (r : Cs × List Msg) (w : World) (e : Ending) (w' : World) : Prop :=
  ∃ L' v, e = .returned v ∧ CoSt U w' L' cf r.1 ∧ OutI (L'.all ++ U) w' v r.2 ∧ Grew w L L' ∧ Kp L.all w w'
theorem CoSt.askPtr {U : List Nat} {w : World} {L : Lay} {cf : Cfg} {s : Cs} (h : CoSt U w L cf s) {ga k p : Nat} (hg : L.ga = some ga) (hp : L.az[k]? = some p) : w.cell? ⟨ga, k, none⟩ = some (ptr p) := by
  obtain ⟨κ, VS, VW, VJ, VD, MV, AV, l, h⟩ := h
  have hk := (List.getElem?_eq_some_iff.1 hp).1
  obtain ⟨g, c, rfl, _⟩ := own_form h.aq.1 (by omega)
  have e := h.aq.2
  rw [hg] at e
  obtain rfl : g = ga := by simpa [Value.ownBlock] using e
  rw [h.aq.1.cellAt k (by omega)]
  simp [hp]
end Go.Proofs.YtdiljpdohmeceaaGreat.co

/- coord: (*Coord).Tick where a job begins, or there is none. -/
namespace Go.Proofs.YtdiljpdohmeceaaGreat.co
open Go.RowKit H O opk frame wir

theorem Que.form {w : World} {v : Value} {g : Option Nat} {ps : List Nat} (h : Que w v g ps) : ∃ A c, v = .slice A ps.length c := by
  rcases h with ⟨_, rfl, rfl⟩ | ⟨b, o, c, cur, _, rfl, _⟩
  · exact ⟨none, 0, rfl⟩
  · exact ⟨_, c, rfl⟩

set_option maxHeartbeats 4000000 in
set_option maxRecDepth 100000 in
theorem tick_no (U : List Nat) (w : World) (L : Lay) (cf : Cfg) (s : Cs) (hC : CoSt U w L cf s) (hj : s.jobs = []) : Calls Tryz.prog 11 #[.pointer (some ⟨L.b, 0, none⟩)] w (TickPost U L cf (tick cf s) w) := by
  have HC := As.mk hC
  obtain ⟨κ, VS, VW, VJ, VD, MV, AV, l, h⟩ := hC
  obtain ⟨A, c, hv⟩ := h.jq.form
  have hl : L.js.length = 0 := by rw [h.jl, hj]; rfl
  rw [hl] at hv
  subst hv
  have b5 : w.cell? ⟨L.b, 5, none⟩ = some (.slice A 0 c) := blk_cell h.hd 5 rfl
  have HJ := As.mk hj
  clear h hl hj
  go_enter Tryz.func11, Tryz.ntmps11
  go_wp2
  go_ret
  rw [tick_none HJ.out]
  exact ⟨L, _, rfl, HC.out, OutI.nil _ _, Grew.refl _ _, Kp.refl _ _⟩

set_option maxHeartbeats 8000000 in
set_option maxRecDepth 100000 in
theorem tick_begin (U : List Nat) (w : World) (L : Lay) (cf : Cfg) (s : Cs) (j : Job) (r : List Job) (hC : CoSt U w L cf s) (ok : CsOk cf s) (hj : s.jobs = j :: r) (ha : s.asks = []) (hc : s.ctx + 8 ≤ 1099511627776) (he : s.ended + 1 ≤ 1099511627776) :
    Calls Tryz.prog 11 #[.pointer (some ⟨L.b, 0, none⟩)] w (TickPost U L cf (tick cf s) w) := by
  have hC0 := hC
  obtain ⟨κ, VS, VW, VJ, VD, MV, AV, l, h⟩ := hC
  have hjl := h.jl
  rw [hj] at hjl
  obtain ⟨p0, ps, hjs⟩ : ∃ p ps, L.js = p :: ps := by
    cases e : L.js with
    | nil => rw [e] at hjl; simp at hjl
    | cons p ps => exact ⟨p, ps, rfl⟩
  obtain ⟨qb, qo, qc, rfl, q0⟩ := h.jq.cell (i := 0) (p := p0) (by rw [hjs]; rfl)
  obtain ⟨m, hm⟩ : ∃ m, L.js.length = m + 1 := ⟨ps.length, by rw [hjs]; rfl⟩
  have hd := h.hd
  rw [hm] at hd
  have b5 : w.cell? ⟨L.b, 5, none⟩ = some (.slice (some ⟨qb, qo, none⟩) (m + 1) qc) := blk_cell hd 5 rfl
  rw [Nat.add_zero] at q0
  unfold ptr at q0
  obtain ⟨tv, dv, hp, _, _⟩ := h.ja 0 j p0 (by rw [hj]; rfl) (by rw [hjs]; rfl)
  rw [if_pos rfl, if_pos rfl] at hp
  have p13 : w.cell? ⟨p0, 13, none⟩ = some (.slice none 0 0) := by rw [← (h.no ha).1]; exact blk_cell hp 13 rfl
  have hcl := ok.cfg.len
  have jok := ok.jobs j (by rw [hj]; simp)
  obtain ⟨n, hn⟩ : ∃ n, (jshards cf j).length = n := ⟨_, rfl⟩
  have hn8 := jshards_len (cf := cf) (j := j) hcl.1
  rw [hn] at hn8
  obtain ⟨A0, hA0⟩ : ∃ A, mkAsks cf s.ended j 0 s.ctx (jshards cf j) = A := ⟨_, rfl⟩
  obtain ⟨A1, hA1⟩ : ∃ A, mkAsks cf s.ended j 1 s.ctx (jshards cf j) = A := ⟨_, rfl⟩
  have hl0 : A0.length = n := by rw [← hA0, mkAsks_len, hn]
  have hl1 : A1.length = n := by rw [← hA1, mkAsks_len, hn]
  have HTK := As.mk (tick_new (cf := cf) hj ha)
  rw [hn, hA1] at HTK
  have HBG : As (Calls Tryz.prog 30 #[.pointer (some ⟨L.b, 0, none⟩), .pointer (some ⟨p0, 0, none⟩)] w fun e w1 => e = .returned (.tuple #[]) ∧ ∃ (ga cA : Nat), w1.cell? ⟨p0, 13, none⟩ = some (.slice (some ⟨ga, 0, none⟩) n cA) ∧
      As (∃ L', L'.ga = some ga ∧ L'.b = L.b ∧ CoSt U w1 L' cf { s with asks := mix A1 A0 0, ctx := s.ctx + n } ∧ Grew w L L' ∧ L'.js = L.js ∧ Kp L.all w w1)) := ⟨by
    refine (begins_any U w L cf s j r p0 ps hC0 ok hj hjs ha hc he).mono ?_
    rintro e w1 ⟨rfl, L', hc', hg, hjs', hk⟩
    rw [hn, hA0] at hc'
    obtain ⟨κ', VS', VW', VJ', VD', MV', AV', l', h'⟩ := id hc'
    have hal := h'.al
    have hal : L'.az.length = n := by rw [hal]; exact hl0
    have ho := h'.aq.1
    rw [hal] at ho
    obtain ⟨g, cA, rfl, _⟩ := own_form ho (by omega)
    have e2 := h'.aq.2
    obtain ⟨tv', dv', hp', _, _⟩ := h'.ja 0 j p0 (show s.jobs[0]? = some j by rw [hj]; rfl) (by rw [hjs', hjs]; rfl)
    rw [if_pos rfl, if_pos rfl] at hp'
    refine ⟨rfl, g, cA, blk_cell hp' 13 rfl, ⟨L', ?_, hg.1, by rw [mix_zero]; exact hc', hg, hjs', hk⟩⟩
    simpa [Value.ownBlock] using e2.symm⟩
  have HOK : As (∀ k, CsOk cf { s with asks := mix A1 A0 k, ctx := s.ctx + n }) := ⟨fun k => by
    refine ok.asksTo (fun a ha2 => ?_) (by rw [mix_len (by omega)]; omega) (by rw [hj]; simp)
    have ht := ok.cfg.tries
    rcases mix_mem ha2 with e | e
    · rw [← hA1] at e
      rw [← hn]
      exact mkAsks_ok jok (by omega) (by omega) a e
    · rw [← hA0] at e
      rw [← hn]
      exact mkAsks_ok jok (by omega) (by omega) a e⟩
  have HGET : As (∀ k, k < n → ∃ a0, A0[k]? = some a0 ∧ A1[k]? = some { a0 with waited := 0, tried := a0.tried + 1, hinted := false } ∧ a0.tried < cf.tries) := ⟨fun k hk => by
    have hk' : k < (jshards cf j).length := by omega
    have ht := ok.cfg.tries
    refine ⟨newAsk cf s.ended j 0 (s.ctx + k + 1) (jshards cf j)[k], by rw [← hA0]; exact mkAsks_get .., by rw [← hA1]; exact mkAsks_get .., by show 0 < cf.tries; omega⟩⟩
  have HL := As.mk (And.intro hl0 hl1)
  have hn9 : n ≤ 8 := by omega
  clear h hd hp hm hjl hC0 ok hj ha hc he hcl jok hn hA0 hA1 hl0 hl1
  go_enter Tryz.func11, Tryz.ntmps11
  go_wp2_with (go_at_call 30; refine HBG.out.mono ?_; rintro e w1 ⟨rfl, ga, cA, c13, HB1⟩; clear HBG)
  go_loopw [4, 39] (fun v i wr => ∃ (k : Nat) (L' : Lay), i = .int .i64 (k : Int) ∧ k ≤ n ∧ As (L'.ga = some ga ∧ L'.b = L.b ∧ Grew w L L' ∧ Kp L.all w wr ∧ ∀ g, v.ownBlock = some g → w.heap.size ≤ g) ∧ As (CoSt (v.ownBlock.toList ++ U) wr L' cf { s with asks := mix A1 A0 k, ctx := s.ctx + n }) ∧ As (OutI (L'.all ++ U) wr v ((A1.take k).map (msgOf cf s.whom)))) (fun _ i _ => n - (intOf i).toNat)
  case atStart =>
    obtain ⟨L', h1, h2, h3, h4, h5, h6⟩ := HB1.out
    exact ⟨0, L', rfl, by omega, ⟨h1, h2, h4, h6, by simp [Value.ownBlock]⟩, ⟨by simpa [Value.ownBlock] using h3⟩, ⟨OutI.nil _ _⟩⟩
  case round =>
    obtain ⟨k, L', rfl, hk, HG, HS, HO⟩ := hrel
    by_cases hlt : k < n
    · obtain ⟨a0, ha0, ha1, hlt3⟩ := HGET.out k hlt
      have hl0 := HL.out.1
      have hl1 := HL.out.2
      obtain ⟨p, hp⟩ : ∃ p, L'.az[k]? = some p := by
        obtain ⟨κ', VS', VW', VJ', VD', MV', AV', l', h'⟩ := HS.out
        have h1 := h'.al
        have h1 : L'.az.length = (mix A1 A0 k).length := h1
        rw [mix_len (by omega)] at h1
        exact ⟨_, List.getElem?_eq_getElem (by omega)⟩
      have c0 := HS.out.askPtr HG.out.1 hp
      unfold ptr at c0
      have HTR := tried_any (u4.ownBlock.toList ++ U) wr L' cf { s with asks := mix A1 A0 k, ctx := s.ctx + n } k p a0 HS.out (HOK.out k) hp (mix_get (by omega) ha0) hlt3
      rw [HG.out.2.1] at HTR
      have HTR := As.mk HTR
      obtain ⟨vs, ho, hv, hms⟩ := HO.out
      rw [List.length_map, List.length_take, Nat.min_eq_left (by omega)] at ho
      have hlt4 := HS.out.lt
      obtain ⟨fl, hfl⟩ : ∃ m, a0.frame.length = m := ⟨_, rfl⟩
      obtain ⟨dd, hdd⟩ : ∃ m, dest cf s.whom a0.shard = m := ⟨_, rfl⟩
      have HTR2 : As (Calls Tryz.prog 31 #[.pointer (some ⟨L.b, 0, none⟩), .pointer (some ⟨p, 0, none⟩)] wr fun e w2 => ∃ A2 c2, e = .returned (.agg #[.int .i64 (cf.id : Int), .int .i64 dd, .slice A2 fl c2]) ∧
          As ((w2.alloc (.cells #[.int .i64 (cf.id : Int), .int .i64 dd, .slice A2 fl c2] 44)).ownsRow 0 44 3 u4 k vs) ∧
          As (∀ v3 w3, w3.ownsRow 0 44 3 v3 (k + 1) (vs ++ [.int .i64 (cf.id : Int), .int .i64 dd, .slice A2 fl c2]) → Kp u4.ownBlock.toList (w2.alloc (.cells #[.int .i64 (cf.id : Int), .int .i64 dd, .slice A2 fl c2] 44)) w3 → At (w2.heap.size + 1) u4.ownBlock v3.ownBlock →
            As (L'.ga = some ga ∧ L'.b = L.b ∧ Grew w L L' ∧ Kp L.all w w3 ∧ ∀ g, v3.ownBlock = some g → w.heap.size ≤ g) ∧ As (CoSt (v3.ownBlock.toList ++ U) w3 L' cf { s with asks := mix A1 A0 (k + 1), ctx := s.ctx + n }) ∧ As (OutI (L'.all ++ U) w3 v3 ((A1.take (k + 1)).map (msgOf cf s.whom))))) := ⟨by
        refine HTR.out.mono ?_
        rintro e w2 ⟨dv, rfl, hd, hc, hk2⟩
        obtain ⟨A2, c2, rfl, hd2⟩ := id hd
        have hpm : p ∈ L'.all := Lay.mem.2 (by simp [List.mem_of_getElem? hp])
        have hV : ∀ x ∈ [p], x ∈ L'.all ++ U ∨ wr.heap.size ≤ x := fun x hx => by
          simp only [List.mem_singleton] at hx
          subst hx
          exact .inl (List.mem_append.2 (.inl hpm))
        have hu : ∀ g, u4.ownBlock = some g → g ∉ [p] := fun g e hm => by
          simp only [List.mem_singleton] at hm
          subst hm
          exact hv _ e (List.mem_append.2 (.inl hpm))
        have ho2 := hk2.own ho hu
        have hfd : dest cf ({ s with asks := mix A1 A0 k, ctx := s.ctx + n } : Cs).whom a0.shard = dd := hdd
        rw [hfd, hfl]
        refine ⟨A2, c2, rfl, ⟨ho2.alloc _⟩, ⟨fun v3 w3 o3 k3 a3 => ?_⟩⟩
        have hs2 := hk2.size
        have hs0 := HG.out.2.2.2.1.size
        have hu0 := HG.out.2.2.2.2
        have k13 : Kp u4.ownBlock.toList w2 w3 := ((Kp.refl u4.ownBlock.toList w2).alloc _).trans k3 (fun x hx => .inl hx)
        have hu3 : ∀ g, v3.ownBlock = some g → u4.ownBlock = some g ∨ w2.heap.size ≤ g ∧ g < w3.heap.size := by
          intro g e
          have h9 := own_lt o3 g e
          rcases a3 with e2 | ⟨y, e2, hy⟩
          · rw [e2] at e; exact .inl e
          · rw [e2] at e; cases e; exact .inr ⟨by omega, h9⟩
        have hlt5 : ∀ x ∈ L'.all ++ U, x < w2.heap.size := fun x hx => by
          have := hlt4 x (by simp only [List.mem_append] at hx ⊢; rcases hx with e | e; exact .inl e; exact .inr (.inr e))
          omega
        refine ⟨⟨HG.out.1, HG.out.2.1, HG.out.2.2.1, (HG.out.2.2.2.1.trans hk2 (fun x hx => ?_)).trans k13 (fun x hx => .inr (hu0 x (by simpa using hx))), fun g e => ?_⟩, ⟨?_⟩, ⟨?_⟩⟩
        · simp only [List.mem_singleton] at hx
          subst hx
          exact HG.out.2.2.1.2 _ hpm
        · rcases hu3 g e with e2 | e2
          · exact hu0 g e2
          · omega
        · have h9 := hc.kp (U2 := v3.ownBlock.toList ++ U) k13 (fun x hx => .inl (List.mem_append.2 (.inl hx))) (fun x hx => by
            rcases List.mem_append.1 hx with e | e
            · rcases hu3 x (by simpa using e) with e2 | e2
              · exact .inl (List.mem_append.2 (.inl (by simp [e2])))
              · exact .inr e2
            · exact .inl (List.mem_append.2 (.inr e)))
          rw [← mix_set (by omega) ha1]
          exact h9
        · have e1 : (A1.take (k + 1)).map (msgOf cf s.whom) = (A1.take k).map (msgOf cf s.whom) ++ [⟨cf.id, dd, a0.frame⟩] := by
            obtain ⟨hk1, hv1⟩ := List.getElem?_eq_some_iff.1 ha1
            rw [List.take_succ_eq_append_getElem hk1, List.map_append, List.map_singleton, hv1, ← hdd]
            rfl
          rw [e1]
          refine OutI.snoc (m := ⟨cf.id, dd, a0.frame⟩) (by rw [List.length_map, List.length_take, Nat.min_eq_left (by omega)]) hlt5 hv (hms.kp hk2 (fun x hx => (hV x hx).imp (fun e => ?_) id) (fun x hx => .inl hx)) ?_ o3 k3 a3
          · simp only [List.mem_append] at e ⊢
            rcases e with e | e
            · exact .inr (.inl e)
            · exact .inr (.inr e)
          · have hd' := hd
            simp only [hfl] at hd'
            refine hd'.kp (Kp.refl [] w2) (by simp) (fun x hx => .inl ?_)
            simp only [List.mem_append] at hx ⊢
            rcases hx with e | e | e
            · exact .inr (.inl e)
            · exact .inl e
            · exact .inr (.inr e)⟩
      clear HTR ho hms hlt4 hfl hdd
      have i0 : (0 : Int) ≤ (k : Int) := by omega
      have i1 : (k : Int) < (n : Int) := by omega
      clear ha0 ha1 hl0 hl1 hp
      go_wp2_with (first
        | (go_at_call 31; refine HTR2.out.mono ?_; rintro e w2 ⟨A2, c2, rfl, HOW, HFI⟩)
        | (at_builtin; refine wpList_app rfl (.tmp 43) (.tmp 47) 31 rfl 44 (.agg #[.int .i64 0, .int .i64 0, .slice none 0 0]) 3 40 Tryz.underlying31 info_msg rfl (by decide) u4 k vs rfl HOW.out (some ⟨w2.heap.size, 0, none⟩) 1 1 [.int .i64 (cf.id : Int), .int .i64 dd, .slice A2 fl c2] rfl rfl (rd_new w2 _ _) (by simp) (by simp [Value.oneCell']) (by omega) (by omega) ?_; intro v3 w3 o3 k3 a3 _; obtain ⟨H1, H2, H3⟩ := HFI.out v3 w3 o3 k3 (by simpa using a3); clear o3 k3 a3))
      go_roundw
      case rel => exact ⟨k + 1, L', by go_num, by omega, H1, H2, H3⟩
      case measure => simp [intOf]; omega
    · obtain rfl : k = n := by omega
      go_wp2
      go_ret
      have hl0 := HL.out.1
      have hl1 := HL.out.2
      rw [HTK.out]
      have hs := HS.out
      have e1 : mix A1 A0 k = A1 := by rw [← hl1]; exact mix_all (by omega)
      have e2 : A1.take k = A1 := List.take_of_length_le (by omega)
      rw [e1] at hs
      rw [e2] at HO
      exact ⟨L', _, rfl, hs.kp (Kp.refl [] wr) (by simp) (fun x hx => .inl (List.mem_append.2 (.inr hx))), HO.out, HG.out.2.2.1, HG.out.2.2.2.1⟩
end Go.Proofs.YtdiljpdohmeceaaGreat.co

/- coord: (*Coord).Tick where a job runs. -/
namespace Go.Proofs.YtdiljpdohmeceaaGreat.co
open Go.RowKit H O opk frame wir

/-- no ask has waited as long as it may -/
def Wt (cf : Cfg) (az : List Ask) : Prop := ∀ a ∈ az, a.waited < cf.pat
theorem Wt.set {cf : Cfg} {az : List Ask} (h : Wt cf az) (k : Nat) {a : Ask} (ha : a.waited < cf.pat) : Wt cf (az.set k a) := by
  intro x hx
  rcases List.mem_or_eq_of_mem_set hx with e | e
  · exact h x e
  · rw [e]; exact ha
theorem tkGo_step (cf : Cfg) (f k : Nat) (wh : List Nat) (az : List Ask) (out : List Msg) (a : Ask) (h : az[k]? = some a) : tkGo cf (f + 1) k wh az out =
    if a.answered = true then tkGo cf f (k + 1) wh az out
    else if a.waited + 1 < cf.pat then tkGo cf f (k + 1) wh (az.set k { a with waited := a.waited + 1 }) out
    else if cf.tries ≤ a.tried then (wh, az.set k { a with waited := a.waited + 1 }, out, true)
    else tkGo cf f (k + 1) (nextW cf wh a.shard) (az.set k { a with waited := 0, tried := a.tried + 1, hinted := false }) (out ++ [msgOf cf (nextW cf wh a.shard) a]) := by
  rw [tkGo, h]

theorem AskAt.set5 {S : List Nat} {w : World} {p : Nat} {a : Ask} (h : AskAt S w p a) (hp : p ∈ S) (n : Nat) : AskAt S (w.setCell ⟨p, 5, none⟩ (.int .i64 (n : Int))) p { a with waited := n } := by
  obtain ⟨kd, dv, fv, h1, h2⟩ := h
  have k : Kp [p] w (w.setCell ⟨p, 5, none⟩ (.int .i64 (n : Int))) := (Kp.refl _ w).setCell (.inl (by simp)) _
  exact ⟨kd, dv, fv, heap_setCell_same w p 5 _ _ _ h1, h2.kp k (by intro x hx; simp at hx; subst hx; exact .inl hp) (fun x hx => .inl hx)⟩
theorem AskAt.set7 {S : List Nat} {w : World} {p : Nat} {a : Ask} (h : AskAt S w p a) (hp : p ∈ S) (b : Bool) : AskAt S (w.setCell ⟨p, 7, none⟩ (.bool b)) p { a with hinted := b } := by
  obtain ⟨kd, dv, fv, h1, h2⟩ := h
  have k : Kp [p] w (w.setCell ⟨p, 7, none⟩ (.bool b)) := (Kp.refl _ w).setCell (.inl (by simp)) _
  exact ⟨kd, dv, fv, heap_setCell_same w p 7 _ _ _ h1, h2.kp k (by intro x hx; simp at hx; subst hx; exact .inl hp) (fun x hx => .inl hx)⟩
theorem AskAt.cells {S : List Nat} {w : World} {p : Nat} {a : Ask} (h : AskAt S w p a) : p < w.heap.size ∧ w.cell? ⟨p, 1, none⟩ = some (.int .i64 (a.ctx : Int)) ∧ w.cell? ⟨p, 2, none⟩ = some (.int .i64 (a.shard : Int)) ∧ w.cell? ⟨p, 5, none⟩ = some (.int .i64 (a.waited : Int)) ∧ w.cell? ⟨p, 6, none⟩ = some (.int .i64 (a.tried : Int)) ∧ w.cell? ⟨p, 7, none⟩ = some (.bool a.hinted) ∧ w.cell? ⟨p, 8, none⟩ = some (.bool a.answered) ∧
    ∀ j, w.frozen? ⟨p, j, none⟩ = false := by
  obtain ⟨kd, dv, fv, h1, h2⟩ := h
  exact ⟨lt_of_block h1, blk_cell h1 1 rfl, blk_cell h1 2 rfl, blk_cell h1 5 rfl, blk_cell h1 6 rfl, blk_cell h1 7 rfl, blk_cell h1 8 rfl, blk_free h1⟩
theorem CoSt.askAt {U : List Nat} {w : World} {L : Lay} {cf : Cfg} {s : Cs} (h : CoSt U w L cf s) {k p : Nat} {a : Ask} (hp : L.az[k]? = some p) (ha : s.asks[k]? = some a) : AskAt (L.all ++ U) w p a := by
  obtain ⟨κ, VS, VW, VJ, VD, MV, AV, l, h⟩ := h
  exact h.aa k a p ha hp
theorem CoSt.askSet {U : List Nat} {w w1 : World} {L : Lay} {cf : Cfg} {s : Cs} (h : CoSt U w L cf s) {k p : Nat} {a a' : Ask} (hp : L.az[k]? = some p) (ha : s.asks[k]? = some a) (hk : Kp [p] w w1) (hn : AskAt (L.all ++ U) w1 p a') (hms : a'.ms = a.ms) : CoSt U w1 L cf { s with asks := s.asks.set k a' } := by
  obtain ⟨κ, VS, VW, VJ, VD, MV, AV, l, h⟩ := h
  exact ⟨_, _, _, _, _, _, _, _, h.ask hp ha hk hn hms⟩
theorem CoSt.azp {U : List Nat} {w : World} {L : Lay} {cf : Cfg} {s : Cs} (h : CoSt U w L cf s) {k : Nat} (hk : k < s.asks.length) : ∃ p, L.az[k]? = some p ∧ p ∈ L.all := by
  obtain ⟨κ, VS, VW, VJ, VD, MV, AV, l, h⟩ := h
  have h1 := h.al
  have hl : k < L.az.length := by omega
  exact ⟨_, List.getElem?_eq_getElem hl, Lay.mem.2 (by simp [List.getElem_mem hl])⟩
theorem CoSt.drewN {U : List Nat} {w : World} {L : Lay} {cf : Cfg} {s : Cs} (h : CoSt U w L cf s) (q : Nat) : CoSt U (w.drewN q) L cf s := h.kp ((Kp.refl [] w).drewN q) (by simp) (fun x hx => .inl hx)

/-- inside the loop -/
structure TkI (U : List Nat) (L : Lay) (cf : Cfg) (s : Cs) (w : World) (n k : Nat) (wh : List Nat) (az : List Ask) (ms : List Msg) (v : Value) (wr : World) : Prop where
  ok : CsOk cf { s with whom := wh, asks := az }
  wt : Wt cf az
  len : az.length = n
  st : CoSt (v.ownBlock.toList ++ U) wr L cf { s with whom := wh, asks := az }
  out : OutI (L.all ++ U) wr v ms
  kp : Kp L.all w wr
  own : ∀ g, v.ownBlock = some g → w.heap.size ≤ g
  few : ms.length ≤ k
  go : tkGo cf (n - k) k wh az ms = tkGo cf n 0 s.whom s.asks []

/-- an ask has waited once more -/
theorem TkI.wait {U : List Nat} {L : Lay} {cf : Cfg} {s : Cs} {w : World} {n k : Nat} {wh : List Nat} {az : List Ask} {ms : List Msg} {v : Value} {wr : World} (h : TkI U L cf s w n k wh az ms v wr) {p : Nat} {a : Ask} (hpk : L.az[k]? = some p) (hpm : p ∈ L.all) (haz : az[k]? = some a) {wX : World}
    (kX : Kp [] (wr.setCell ⟨p, 5, none⟩ (.int .i64 ((a.waited : Int) + 1))) wX) :
    CoSt (v.ownBlock.toList ++ U) wX L cf { s with whom := wh, asks := az.set k { a with waited := a.waited + 1 } } ∧ OutI (L.all ++ U) wX v ms ∧ Kp L.all w wX ∧ CsOk cf { s with whom := wh, asks := az.set k { a with waited := a.waited + 1 } } ∧ Kp [p] wr wX := by
  have k1 : Kp [p] wr (wr.setCell ⟨p, 5, none⟩ (.int .i64 ((a.waited : Int) + 1))) := (Kp.refl _ wr).setCell (.inl (by simp)) _
  have hA := h.st.askAt hpk haz
  have hA5 := hA.set5 (List.mem_append.2 (.inl hpm)) (a.waited + 1)
  have hwt := h.wt a (List.mem_of_getElem? haz)
  have aok := h.ok.asks a (List.mem_of_getElem? haz)
  have hpat := h.ok.cfg.pat
  have k2 := k1.trans kX (by simp)
  refine ⟨(h.st.askSet hpk haz k1 hA5 rfl).kp kX (by simp) (fun x hx => .inl hx), h.out.kp k2 (fun x hx => ?_) (fun x hx => .inl hx), h.kp.trans k2 (fun x hx => ?_), h.ok.ask k ⟨aok.shard, aok.ctx, aok.frame, aok.tried, by show a.waited + 1 ≤ 1001; omega⟩, k2⟩
  · simp only [List.mem_singleton] at hx
    subst hx
    exact .inl (List.mem_append.2 (.inl hpm))
  · simp only [List.mem_singleton] at hx
    subst hx
    exact .inl hpm

/-- the job's time has run out -/
theorem TkI.ends {U : List Nat} {L : Lay} {cf : Cfg} {s : Cs} {w : World} {n k : Nat} {wh : List Nat} {az : List Ask} {ms : List Msg} {v : Value} {wr : World} (h : TkI U L cf s w n k wh az ms v wr) {p : Nat} {a : Ask} (hpk : L.az[k]? = some p) (hpm : p ∈ L.all) (haz : az[k]? = some a) {wX : World}
    (kX : Kp [] (wr.setCell ⟨p, 5, none⟩ (.int .i64 ((a.waited : Int) + 1))) wX) {j : Job} {r : List Job} {p0 : Nat} {ps : List Nat} (hj : s.jobs = j :: r) (hjs : L.js = p0 :: ps) (hd9 : s.done.length ≤ 1000000) :
    Calls Tryz.prog 32 #[.pointer (some ⟨L.b, 0, none⟩), .int .i64 14] wX fun en w' => en = .returned (.tuple #[]) ∧
      As (∃ L', CoSt U w' L' cf (endErr { s with whom := wh, asks := az.set k { a with waited := a.waited + 1 } } 14) ∧ OutI (L'.all ++ U) w' v ms ∧ Grew w L L' ∧ Kp L.all w w') := by
  obtain ⟨g1, g2, g3, g4, g5⟩ := h.wait hpk hpm haz kX
  obtain ⟨κ, VS, VW, VJ, VD, MV, AV, l, hp⟩ := g1
  obtain ⟨tv, dv, hb, _, _⟩ := hp.ja 0 j p0 (show s.jobs[0]? = some j by rw [hj]; rfl) (by rw [hjs]; rfl)
  rw [if_pos rfl, if_pos rfl] at hb
  have hms : MSl (L.b :: L.gw :: (L.gj.toList ++ L.js) ++ (v.ownBlock.toList ++ U) ++ L.gd.toList) wX MV l := by
    refine MSl.own hp.mq.1 (fun g e hm => ?_)
    rw [hp.mq.2.1] at e
    have h6 := hp.sep.gm g e
    simp only [List.mem_append, List.mem_cons, Option.mem_toList] at hm
    rcases hm with ((e | e | e | e) | e | e) | e
    · have := hp.sep.b; rw [e] at h6; omega
    · have := hp.sep.gw; rw [e] at h6; omega
    · have := hp.sep.gj g e; omega
    · have := hp.sep.js g e; omega
    · have := hp.sep.U g (List.mem_append.2 (.inl (by simp [e]))); omega
    · have := hp.sep.U g (List.mem_append.2 (.inr e)); omega
    · have := hp.sep.gd g e; omega
  refine (ends_any (v.ownBlock.toList ++ U) wX wX L cf _ κ VS VW VJ VD MV AV l j r p0 ps hp hj hjs (Kp.refl _ _) false false (.slice none 0 0) MV _ _ _ _ _ _ _ _ [] l 14 hb (BSl.nil _ _) hms hd9).mono ?_
  rintro en w' ⟨rfl, L', q1, q2, q3, q4⟩
  have e0 : resOf s.ended 14 false false [] l = ⟨s.ended, 14, false, false, [], []⟩ := rfl
  rw [e0] at q1
  refine ⟨rfl, ⟨L', q1.kp (Kp.refl [] w') (by simp) (fun x hx => .inl (List.mem_append.2 (.inr hx))), g2.kp q4 (fun x hx => .inl (List.mem_append.2 (.inl hx))) (fun x hx => ?_), ⟨q2.1, fun x hx => (q2.2 x hx).imp id (fun e => by have := g3.size; omega)⟩, g3.trans q4 (fun x hx => .inl hx)⟩⟩
  rcases List.mem_append.1 hx with e | e
  · exact (q2.2 x e).imp (fun e => List.mem_append.2 (.inl e)) id
  · exact .inl (List.mem_append.2 (.inr e))

/-- the next one is asked -/
theorem TkI.resend {U : List Nat} {L : Lay} {cf : Cfg} {s : Cs} {w : World} {n k : Nat} {wh : List Nat} {az : List Ask} {ms : List Msg} {v : Value} {wr : World} (h : TkI U L cf s w n k wh az ms v wr) {p : Nat} {a : Ask} (hpk : L.az[k]? = some p) (hpm : p ∈ L.all) (haz : az[k]? = some a)
    (han : ¬ a.answered = true) (hnw : ¬ a.waited + 1 < cf.pat) (htr : ¬ cf.tries ≤ a.tried) (q : Nat) {wi' nj' : Nat} (hwi : wh.getD a.shard 0 = wi') (hnj : (cf.shards.getD a.shard []).length = nj') {dd' : Int} (hdd : dest cf (nextW cf wh a.shard) a.shard = dd') {fl' nm' : Nat} (hfl : a.frame.length = fl') (hnm : ms.length = nm')
    (hlt : k < n) {vs : List Value} (hvs : wr.ownsRow 0 44 3 v nm' vs ∧ MsOk (v.ownBlock.toList ++ (L.all ++ U)) wr ms vs) :
    Calls Tryz.prog 31 #[.pointer (some ⟨L.b, 0, none⟩), .pointer (some ⟨p, 0, none⟩)] (((wr.setCell ⟨p, 5, none⟩ (.int .i64 ((a.waited : Int) + 1))).drewN q).setCell ⟨L.gw, a.shard, none⟩ (.int .i64 (((wi' : Int) + 1) % (nj' : Int)))) fun e w2 => ∃ A2 c2, e = .returned (.agg #[.int .i64 (cf.id : Int), .int .i64 dd', .slice A2 fl' c2]) ∧
      As ((w2.alloc (.cells #[.int .i64 (cf.id : Int), .int .i64 dd', .slice A2 fl' c2] 44)).ownsRow 0 44 3 v nm' vs) ∧
      As (∀ v3 w3, w3.ownsRow 0 44 3 v3 (nm' + 1) (vs ++ [.int .i64 (cf.id : Int), .int .i64 dd', .slice A2 fl' c2]) → Kp v.ownBlock.toList (w2.alloc (.cells #[.int .i64 (cf.id : Int), .int .i64 dd', .slice A2 fl' c2] 44)) w3 → At (w2.heap.size + 1) v.ownBlock v3.ownBlock →
        TkI U L cf s w n (k + 1) (nextW cf wh a.shard) (az.set k { a with waited := 0, tried := a.tried + 1, hinted := false }) (ms ++ [msgOf cf (nextW cf wh a.shard) a]) v3 w3) := by
  obtain ⟨g1, g2, g3, g4, g5⟩ := h.wait hpk hpm haz ((Kp.refl [] _).drewN q)
  obtain ⟨κ, VS, VW, VJ, VD, MV, AV, l, hp⟩ := g1
  have aok := h.ok.asks a (List.mem_of_getElem? haz)
  have hwl := h.ok.wlen
  have hwl : wh.length = cf.shards.length := hwl
  obtain ⟨_, _, _, _, _, _, _, cw, _, _, _, _, _, hVW, _⟩ := hp.dest g4 aok.shard
  have hval : (((wi' : Int) + 1) % (nj' : Int)) = (((wi' + 1) % nj' : Nat) : Int) := rfl
  rw [hval]
  obtain ⟨hp2, kW⟩ := hp.whom a.shard ((wi' + 1) % nj') cw hVW (by show a.shard < wh.length; rw [hwl]; exact aok.shard) rfl
  have hnext : wh.set a.shard ((wi' + 1) % nj') = nextW cf wh a.shard := by rw [nextW, hwi, hnj]
  have hst2 : CoSt (v.ownBlock.toList ++ U) (((wr.setCell ⟨p, 5, none⟩ (.int .i64 ((a.waited : Int) + 1))).drewN q).setCell ⟨L.gw, a.shard, none⟩ (.int .i64 (((wi' + 1) % nj' : Nat) : Int))) L cf { s with whom := nextW cf wh a.shard, asks := az.set k { a with waited := a.waited + 1 } } := by
    rw [← hnext]
    exact ⟨_, _, _, _, _, _, _, _, hp2⟩
  have hok2 := g4.next aok.shard
  have hkl : k < az.length := by rw [h.len]; exact hlt
  have hTR := tried_any (v.ownBlock.toList ++ U) _ L cf _ k p { a with waited := a.waited + 1 } hst2 hok2 hpk (by show (az.set k _)[k]? = _; simp [hkl]) (by show a.tried < cf.tries; omega)
  refine hTR.mono ?_
  rintro e w2 ⟨dv, rfl, hd, hc, hk2⟩
  obtain ⟨A2, c2, rfl, hd2⟩ := id hd
  have hfd : dest cf ({ s with whom := nextW cf wh a.shard, asks := az.set k { a with waited := a.waited + 1 } } : Cs).whom ({ a with waited := a.waited + 1 } : Ask).shard = dd' := hdd
  rw [hfd, show ({ a with waited := a.waited + 1 } : Ask).frame.length = fl' from hfl]
  have hgm : L.gw ∈ L.all := Lay.mem.2 (by simp)
  have kAll : Kp L.all wr w2 := ((g5.mono (T := L.all) (by intro x hx; simp at hx; subst hx; exact .inl hpm)).trans kW (by intro x hx; simp at hx; subst hx; exact .inl hgm)).trans hk2 (by intro x hx; simp at hx; subst hx; exact .inl hpm)
  obtain ⟨_, _, hv, _⟩ := h.out
  have hvL : ∀ x, v.ownBlock = some x → x ∉ L.all := fun x e hm => hv x e (List.mem_append.2 (.inl hm))
  have ho2 := kAll.own hvs.1 hvL
  have hdd2 : BSl (L.all ++ (v.ownBlock.toList ++ U)) w2 (.slice A2 fl' c2) a.frame := by
    have hd' := hd
    simp only [hfl] at hd'
    exact hd'
  refine ⟨A2, c2, rfl, ⟨ho2.alloc _⟩, ⟨fun v3 w3 o3 k3 a3 => ?_⟩⟩
  have hs2 := kAll.size
  have hs0 := h.kp.size
  have hlt4 := h.st.lt
  have k13 : Kp v.ownBlock.toList w2 w3 := ((Kp.refl v.ownBlock.toList w2).alloc _).trans k3 (fun x hx => .inl hx)
  have hu3 : ∀ g, v3.ownBlock = some g → v.ownBlock = some g ∨ w2.heap.size ≤ g ∧ g < w3.heap.size := by
    intro g e
    have h9 := own_lt o3 g e
    rcases a3 with e2 | ⟨y, e2, hy⟩
    · rw [e2] at e; exact .inl e
    · rw [e2] at e; cases e; exact .inr ⟨by omega, h9⟩
  have hlt5 : ∀ x ∈ L.all ++ U, x < w2.heap.size := fun x hx => by
    have := hlt4 x (by simp only [List.mem_append] at hx ⊢; rcases hx with e | e; exact .inl e; exact .inr (.inr e))
    omega
  have hok3 := hok2.ask k (a := { a with waited := 0, tried := a.tried + 1, hinted := false }) ⟨aok.shard, aok.ctx, aok.frame, by show a.tried + 1 ≤ cf.tries; omega, by show 0 ≤ 1001; omega⟩
  have hset : (az.set k { a with waited := a.waited + 1 }).set k { a with waited := 0, tried := a.tried + 1, hinted := false } = az.set k { a with waited := 0, tried := a.tried + 1, hinted := false } := List.set_set ..
  have hpat := h.ok.cfg.pat
  have hgo := h.go
  have hst := tkGo_step cf (n - (k + 1)) k wh az ms a haz
  rw [show n - (k + 1) + 1 = n - k by omega] at hst
  rw [if_neg han, if_neg hnw, if_neg htr] at hst
  refine ⟨?_, h.wt.set k (by show 0 < cf.pat; omega), by rw [List.length_set]; exact h.len, ?_, ?_, (h.kp.trans kAll (fun x hx => .inl hx)).trans k13 (fun x hx => .inr (h.own x (by simpa using hx))), fun g e => ?_, by rw [List.length_append]; have := h.few; simp; omega, hst.symm.trans hgo⟩
  · have h9 : CsOk cf { s with whom := nextW cf wh a.shard, asks := (az.set k { a with waited := a.waited + 1 }).set k { a with waited := 0, tried := a.tried + 1, hinted := false } } := hok3
    rw [hset] at h9
    exact h9
  · have h9 := hc.kp (U2 := v3.ownBlock.toList ++ U) k13 (fun x hx => .inl (List.mem_append.2 (.inl hx))) (fun x hx => by
      rcases List.mem_append.1 hx with e | e
      · rcases hu3 x (by simpa using e) with e2 | e2
        · exact .inl (List.mem_append.2 (.inl (by simp [e2])))
        · exact .inr e2
      · exact .inl (List.mem_append.2 (.inr e)))
    have h10 : CoSt (v3.ownBlock.toList ++ U) w3 L cf { s with whom := nextW cf wh a.shard, asks := (az.set k { a with waited := a.waited + 1 }).set k { a with waited := 0, tried := a.tried + 1, hinted := false } } := h9
    rw [hset] at h10
    exact h10
  · have e1 : msgOf cf (nextW cf wh a.shard) a = ⟨cf.id, dd', a.frame⟩ := by rw [← hdd]; rfl
    rw [e1]
    refine OutI.snoc (m := ⟨cf.id, dd', a.frame⟩) hnm hlt5 hv (hvs.2.kp kAll (fun x hx => .inl (List.mem_append.2 (.inr (List.mem_append.2 (.inl hx))))) (fun x hx => .inl hx)) ?_ o3 k3 a3
    refine hdd2.kp (Kp.refl [] w2) (by simp) (fun x hx => .inl ?_)
    simp only [List.mem_append] at hx ⊢
    rcases hx with e | e | e
    · exact .inr (.inl e)
    · exact .inl e
    · exact .inr (.inr e)
  · rcases hu3 g e with e2 | e2
    · exact h.own g e2
    · omega

end Go.Proofs.YtdiljpdohmeceaaGreat.co

/- coord.New of groups. -/
namespace Go.Proofs.YtdiljpdohmeceaaGreat.co
open Go.RowKit H O opk frame wir

theorem ri_nil {S : List Nat} {w : World} {b o j n cj : Nat} {Aj : Option Addr} {l : List (List Int)} (h : Ri S w (some ⟨b, o, none⟩) l) (hj : j < l.length) (hc : w.cell? ⟨b, o + j, none⟩ = some (.slice Aj n cj)) : Aj = none → cj = 0 := by
  obtain ⟨a, A2, c2, ha, _, h1, _, h2, _⟩ := h j hj
  cases ha
  rw [Go.WideShapes.add_plain, hc] at h1
  cases h1
  exact h2
def newCs (n : Nat) : Cs := ⟨List.replicate n 0, [], 0, 0, [], []⟩
/-- inside New's loop -/
structure NewI (w : World) (id pat tr : Nat) (n b k : Nat) (l : List (List Int)) (wr : World) (VS : Value) : Prop where
  blk : wr.heap[b]? = some (.cells #[.int .i64 (id : Int), .int .i64 (pat : Int), .int .i64 (tr : Int), VS, .slice (some ⟨w.heap.size, 0, none⟩) n n, .slice none 0 0, .int .i64 0, .int .i64 0, .slice none 0 0] 95 (0, 0))
  sh : OwnL [b, w.heap.size] wr w.heap.size VS (l.take k)
  gv : ∀ g, VS.ownBlock = some g → g ≠ b ∧ g ≠ w.heap.size
  wh : wr.ownsRow 0 3 1 (.slice (some ⟨w.heap.size, 0, none⟩) n n) n (iv .i64 (List.replicate n 0))
  kp : Kp [] w wr
  lo : w.heap.size < b
theorem NewI.fin {w wr : World} {id pat tr n b : Nat} {l : List (List Int)} {VS : Value} (h : NewI w id pat tr n b n l wr VS) (hn : l.length = n) (U : List Nat) (hU : ∀ x ∈ U, x < w.heap.size) :
    CoSt U wr ⟨b, w.heap.size, none, none, none, none, [], []⟩ ⟨id, pat, tr, l⟩ (newCs n) := by
  have hbl := lt_of_block h.blk
  have hgl := own_lt h.wh w.heap.size rfl
  have e : l.take n = l := List.take_of_length_le (by omega)
  have hsh := h.sh
  rw [e] at hsh
  obtain ⟨A, c, rfl, h1, h2, h3, h4⟩ := hsh.form
  have hmem : ∀ x ∈ (⟨b, w.heap.size, none, none, none, none, [], []⟩ : Lay).all ++ U, x = b ∨ x = w.heap.size ∨ x < w.heap.size := by
    intro x hx
    rcases List.mem_append.1 hx with e | e
    · simp [Lay.all] at e
      rcases e with e | e
      · exact .inl e
      · exact .inr (.inl e)
    · exact .inr (.inr (hU x e))
  refine ⟨fun x => if x = b then 1 else if x = w.heap.size then 2 else 0, .slice A l.length c, .slice (some ⟨w.heap.size, 0, none⟩) n n, .slice none 0 0, .slice none 0 0, .slice none 0 0, .slice none 0 0, [],
    ⟨⟨by simp, hbl⟩, ⟨by have := h.lo; show (if w.heap.size = b then 1 else if w.heap.size = w.heap.size then 2 else 0) = 2; rw [if_neg (by omega), if_pos rfl], hgl⟩, fun x e => (by cases e), fun x e => (by cases e), fun x e => (by cases e), fun x e => (by cases e), fun x e => (by cases e), fun x e => (by cases e), List.nodup_nil, List.nodup_nil, fun x hx => ?_⟩,
    h.blk, ⟨A, c, rfl, hsh.ri (fun x hx => ?_), h1, h2, h3⟩, ⟨?_, rfl⟩, .inl ⟨rfl, rfl, rfl⟩, ⟨[], World.ownsRow_nil _ 0 _ 6, rfl, rfl⟩, rfl, fun i j p e => (by simp [newCs] at e), rfl, fun i a p e => (by simp [newCs] at e), ⟨World.ownsRow_nil _ 0 _ 1, rfl⟩, ⟨World.ownsRow_nil _ 0 _ 2, rfl, by simp [newCs]⟩, fun _ => ⟨rfl, rfl⟩⟩
  · have := hU x hx
    have := h.lo
    show (if x = b then 1 else if x = w.heap.size then 2 else 0) = 0 ∧ x < wr.heap.size
    rw [if_neg (by omega), if_neg (by omega)]
    exact ⟨rfl, by omega⟩
  · rcases hmem x hx with e | e | e
    · refine .inl ⟨by simp [e], fun e2 => ?_⟩
      exact (h.gv x (by rw [ownBlock_slice]; exact e2)).1 e
    · refine .inl ⟨by simp [e], fun e2 => ?_⟩
      exact (h.gv x (by rw [ownBlock_slice]; exact e2)).2 e
    · exact .inr (.inl e)
  · have := h.wh
    simpa [newCs, iv] using this

set_option maxHeartbeats 8000000 in
set_option maxRecDepth 100000 in
theorem new_good (id pat tr : Nat) (A : Option Addr) (n c : Nat) (l : List (List Int)) (w : World) (hn : l.length = n) (hr : Ri [] w A l) (hg : ∀ x ∈ l, Grp x) (h1 : 7 ≤ id ∧ id ≤ 255) (h2 : 1 ≤ pat ∧ pat ≤ 1000) (h3 : 1 ≤ tr ∧ tr ≤ 1000) (h4 : 1 ≤ n ∧ n ≤ 8) :
    Calls Tryz.prog 24 #[.int .i64 (id : Int), .int .i64 (pat : Int), .int .i64 (tr : Int), .slice A n c] w fun e w' => ∃ L, e = .returned (.tuple #[.pointer (some ⟨L.b, 0, none⟩), .int .i64 0]) ∧
      As (∀ U, (∀ x ∈ U, x < w.heap.size) → CoSt U w' L ⟨id, pat, tr, l⟩ (newCs n)) ∧ (∀ x ∈ L.all, w.heap.size ≤ x) ∧ Kp [] w w' := by
  have m0 : ¬ (n : Int) < 1 := by omega
  have m1 : ¬ (n : Int) > 8 := by omega
  have m2 : (0 : Int) ≤ (n : Int) := by omega
  have f1 : ¬ (id : Int) < 7 := by omega
  have f2 : ¬ (255 : Int) < (id : Int) := by omega
  have f3 : ¬ (pat : Int) < 1 := by omega
  have f4 : ¬ (1000 : Int) < (pat : Int) := by omega
  have f5 : ¬ (tr : Int) < 1 := by omega
  have f6 : ¬ (1000 : Int) < (tr : Int) := by omega
  obtain ⟨ti, hti, hti2⟩ := Option.map_eq_some_iff.1 info_int
  obtain ⟨q1, q2, q3⟩ : ti.zero = some (.int .i64 0) ∧ ti.size = 1 ∧ ti.bytes = 8 := by simpa using hti2
  obtain ⟨w1, hmk, ho1, hg1⟩ := run_makeSlice_full (P := Tryz.prog) (w := w) 0 53 3 ti (.int .i64 0) 1 Tryz.underlying53 hti q1 q2 .i64 .i64 n (by omega) (by rw [q3]; omega) (by simp [maxLen]; omega) (Nat.zero_le _)
  have k1 : Kp [] w w1 := (Kp.refl [] w).grown hg1 (by simp)
  have HO1 := As.mk ho1
  have HK1 := As.mk k1
  have HN := As.mk hn
  have HR := As.mk hr
  have HG := As.mk hg
  clear hn ho1 hg1 hti hti2 q1 q2 q3 k1 hr hg
  go_enter Tryz.func24, Tryz.ntmps24
  go_wp2_with fail
  have HI0 : As (NewI w id pat tr n w1.heap.size 0 l (w1.alloc (.cells #[.int .i64 (id : Int), .int .i64 (pat : Int), .int .i64 (tr : Int), .slice none 0 0, .slice (some ⟨w.heap.size, 0, none⟩) n n, .slice none 0 0, .int .i64 0, .int .i64 0, .slice none 0 0] 95)) (.slice none 0 0)) := ⟨by
    have hl := own_lt HO1.out w.heap.size rfl
    refine ⟨heap_alloc_new w1 _, OwnL.nil _ _ _, by simp [Value.ownBlock], ?_, HK1.out.alloc _, hl⟩
    have h := HO1.out.alloc (.cells #[.int .i64 (id : Int), .int .i64 (pat : Int), .int .i64 (tr : Int), .slice none 0 0, .slice (some ⟨w.heap.size, 0, none⟩) n n, .slice none 0 0, .int .i64 0, .int .i64 0, .slice none 0 0] 95)
    have e : (madeCells (Value.int .i64 0).cells (n * 1)).toList = iv .i64 (List.replicate n 0) := by
      rw [show (Value.int .i64 0).cells = #[.int .i64 0] from rfl, toList_madeCells_one, Nat.mul_one, iv, List.map_replicate]
    rw [e] at h
    exact h⟩
  go_loopw [55] (fun i wr => ∃ (k : Nat) (VS : Value), i = .int .i64 (k : Int) ∧ k ≤ n ∧ As (NewI w id pat tr n w1.heap.size k l wr VS)) (fun i _ => n - (intOf i).toNat)
  case atStart => exact ⟨0, _, rfl, by omega, HI0⟩
  case round =>
    obtain ⟨k, VS, rfl, hk, HI⟩ := hrel
    by_cases hlt : k < n
    · have hlt' : k < l.length := by rw [HN.out]; exact hlt
      obtain ⟨b0, o0, Aj, cj, rfl, _, d0, hcj, hrj⟩ := ri_at HR.out k hlt'
      have hjnil := ri_nil HR.out hlt' d0
      have d1 := HI.out.kp.cell d0 (by simp)
      obtain ⟨x, hx⟩ : ∃ x, x = l[k] := ⟨_, rfl⟩
      rw [← hx] at d1 hrj hcj
      obtain ⟨m, hm⟩ : ∃ m, x.length = m := ⟨_, rfl⟩
      rw [hm] at d1 hcj
      have hgx : Grp x := by rw [hx]; exact HG.out _ (List.getElem_mem _)
      have HGR := As.mk (group_good Aj m cj x wr hm (HI.out.kp.rd_new hrj.rd (by simp)) hgx)
      have i0 : (0 : Int) ≤ (k : Int) := by omega
      have i1 : (k : Int) < (n : Int) := by omega
      obtain ⟨us, ho, hlo, hvs⟩ := HI.out.sh
      have hlk : (l.take k).length = k := by rw [List.length_take]; omega
      rw [hlk] at ho
      obtain ⟨AV, cV, rfl, _⟩ := own_rd ho
      have c3 : wr.cell? ⟨w1.heap.size, 3, none⟩ = some (.slice AV k cV) := blk_cell HI.out.blk 3 rfl
      have f3' := blk_free HI.out.blk 3
      have hm7 := hgx.1
      have HCX : As (∀ wX, Kp [] wr wX → Calls Tryz.prog 72 #[.slice Aj m cj] wX fun e w2 => ∃ A2 c2, e = .returned (.slice A2 m c2) ∧ Kp [] wr w2 ∧ As (Own 3 .i64 w2 wr.heap.size (.slice A2 m c2) x)) := ⟨fun wX kX => by
        refine (clone.ints_any Aj m cj x wX hm ((HI.out.kp.trans kX (by simp)).rd_new hrj.rd (by simp)) hjnil (by omega)).mono ?_
        rintro e w2 ⟨v, rfl, o2, k2⟩
        obtain ⟨A2, c2, rfl, _⟩ := own_rd o2.1
        rw [hm] at o2 ⊢
        exact ⟨A2, c2, rfl, kX.trans k2 (by simp), ⟨o2.lower kX.size⟩⟩⟩
      have HOWs : ∀ wX, Kp [] wr wX → wX.ownsRow 0 53 1 (.slice AV k cV) k us := fun wX kX => kX.own ho (by simp)
      have HFIN : As (∀ w2 A2 c2 v3 w3, Kp [] wr w2 → Own 3 .i64 w2 wr.heap.size (.slice A2 m c2) x → w3.ownsRow 0 53 1 v3 (k + 1) (us ++ [.slice A2 m c2]) → Kp (Value.slice AV k cV).ownBlock.toList (w2.alloc (.cells #[.slice A2 m c2] 53)) w3 → At (w2.heap.size + 1) (Value.slice AV k cV).ownBlock v3.ownBlock →
          w3.cell? ⟨w1.heap.size, 3, none⟩ = some (.slice AV k cV) ∧ w3.frozen? ⟨w1.heap.size, 3, none⟩ = false ∧ As (NewI w id pat tr n w1.heap.size (k + 1) l (w3.setCell ⟨w1.heap.size, 3, none⟩ v3) v3)) := ⟨by
        intro w2 A2 c2 v3 w3 k2 o2 o3 k3 a3
        have hov := HI.out.gv
        have hsz := HI.out.kp.size
        have hs2 := k2.size
        have hbl := lt_of_block HI.out.blk
        have hgl : w.heap.size < wr.heap.size := own_lt HI.out.wh w.heap.size rfl
        have hvb : w1.heap.size ∉ (Value.slice AV k cV).ownBlock.toList := by
          intro e
          exact (hov _ (by simpa using e)).1 rfl
        have hb3 := k3.blk (blk_alloc (k2.blk HI.out.blk (by simp)) _) hvb
        have hu2 : Own 3 .i64 w2 w.heap.size (.slice A2 m c2) x := o2.lower hsz
        have hsnoc : OwnL [w1.heap.size, w.heap.size] w3 w.heap.size v3 (l.take k ++ [x]) := by
          have kA : Kp [] wr (w2.alloc (.cells #[.slice A2 m c2] 53)) := k2.alloc _
          have hL : OwnL [w1.heap.size, w.heap.size] (w2.alloc (.cells #[.slice A2 m c2] 53)) w.heap.size (.slice AV k cV) (l.take k) := HI.out.sh.kp kA (by simp) (by simp) (fun x hx => .inl hx)
          have kB : Kp [] w2 (w2.alloc (.cells #[.slice A2 m c2] 53)) := (Kp.refl [] w2).alloc _
          refine OwnL.snoc hlk hL (HOWs _ kA) (hu2.kp kB (by simp)) (fun y hy => ⟨fun hm => ?_, fun e => ?_⟩) o3 k3 (by simpa using a3) (by simp; omega)
          · have h8 := o2.2 y hy
            simp only [List.mem_cons, List.not_mem_nil, or_false] at hm
            rcases hm with e | e <;> omega
          · have h8 := o2.2 y hy
            have h9 := own_lt (HOWs wr (Kp.refl _ _)) y e
            omega
        have htk : l.take (k + 1) = l.take k ++ [x] := by rw [hx]; exact List.take_succ_eq_append_getElem hlt'
        have kS : Kp [w1.heap.size] w3 (w3.setCell ⟨w1.heap.size, 3, none⟩ v3) := (Kp.refl _ w3).setCell (.inl (by simp)) _
        have hgv3 : ∀ g, v3.ownBlock = some g → g ≠ w1.heap.size ∧ g ≠ w.heap.size := by
          intro g e
          rcases a3 with e2 | ⟨y, e2, hy⟩
          · rw [e2] at e; exact hov g e
          · rw [e2] at e
            cases e
            have := HI.out.lo
            omega
        have kAll : Kp [] w w3 := (HI.out.kp.trans (k2.alloc _) (by simp)).trans k3 (fun y hy => .inr (by
          have h8 : (Value.slice AV k cV).ownBlock = some y := by simpa using hy
          exact hlo y h8))
        have hlo2 := HI.out.lo
        refine ⟨blk_cell hb3 3 rfl, blk_free hb3 3, ⟨⟨heap_setCell_same w3 w1.heap.size 3 _ _ v3 hb3, ?_, hgv3, ?_, kAll.trans kS (by intro y hy; simp at hy; omega), hlo2⟩⟩⟩
        · rw [htk]
          refine hsnoc.kp kS (fun y hy => .inl (by simp at hy; simp [hy])) (fun g e hm => ?_) (fun x hx => .inl hx)
          simp at hm
          exact (hgv3 g e).1 hm
        · refine kS.own (k3.own ((k2.alloc _).own HI.out.wh (by simp)) (fun g e hm => ?_)) (fun g e hm => ?_)
          · have e : g = w.heap.size := by simpa [Value.ownBlock] using e.symm
            exact (hov g (by simpa using hm)).2 e
          · have e : g = w.heap.size := by simpa [Value.ownBlock] using e.symm
            simp at hm
            omega⟩
      have HOX : As (∀ wX, Kp [] wr wX → wX.ownsRow 0 53 1 (.slice AV k cV) k us) := ⟨fun wX kX => kX.own ho (by simp)⟩
      clear hjnil hx hrj hcj hm hgx ho hlo hvs hlk hlt' d0 hm7 HOWs
      go_upto_region 9 with (go_at_call 71; refine HGR.out.mono ?_; rintro e wg ⟨rfl, kg⟩; have HKG := As.mk kg; have c3g := kg.cell c3 (by simp); clear kg)
      go_region_law (first
        | (go_simp; go_at_call 72; refine (HCX.out _ (by first | exact HKG.out | exact HKG.out.drew | exact HKG.out.drewN _)).mono ?_; rintro e w2 ⟨A2, c2, rfl, k2, HO2⟩; have HK2 := As.mk k2; have c32 := k2.cell c3 (by simp); have n2 : w1.heap.size < w2.heap.size := World.block_lt_of_cell? w2 _ c32; have n3 : ¬ w1.heap.size = w2.heap.size := Nat.ne_of_lt n2; clear k2)
        | (refine step_app rfl (.tmp 66) (.tmp 69) 79 rfl 53 (.slice none 0 0) 1 24 Tryz.underlying79 info_row rfl (by decide) (.slice AV k cV) k us rfl (HOX.out _ (by first | exact (HK2.out.alloc _).drew | exact (HK2.out.drew.alloc _) | exact (HK2.out.alloc _))) (some ⟨w2.heap.size, 0, none⟩) 1 1 [.slice A2 m c2] rfl rfl (by first | exact ((Kp.refl [] _).drew).rd_new (rd_new w2 [.slice A2 m c2] 53) (by simp) | exact rd_new w2 [.slice A2 m c2] 53) (by simp) (by simp [Value.oneCell']) (by omega) (by omega) ?_; intro v7 w7 o7 k7 a7; obtain ⟨A7, c7, rfl, _⟩ := own_rd o7; obtain ⟨y0, y1, HZ⟩ := HFIN.out w2 A2 c2 _ w7 HK2.out HO2.out o7 (by first | exact k7 | exact (Kp.refl _ _).drew.trans k7 (fun x hx => .inl hx)) (by simpa using a7); clear o7 k7 a7))
      all_goals
        go_wp2_with fail
        go_roundw
        case rel => exact ⟨k + 1, _, by go_num, by omega, HZ⟩
        case measure => simp [intOf]; omega
    · obtain rfl : k = n := by omega
      go_wp2_with fail
      go_ret2
      have hb := HI.out.lo
      refine ⟨⟨w1.heap.size, w.heap.size, none, none, none, none, [], []⟩, rfl, ⟨HI.out.fin HN.out⟩, fun x hx => ?_, HI.out.kp⟩
      simp [Lay.all] at hx
      omega
end Go.Proofs.YtdiljpdohmeceaaGreat.co

/- coord: (*Coord).Tick where a job runs: the walk. -/
namespace Go.Proofs.YtdiljpdohmeceaaGreat.co
open Go.RowKit H O opk frame wir

set_option maxHeartbeats 8000000 in
set_option maxRecDepth 100000 in
theorem tick_run (U : List Nat) (w : World) (L : Lay) (cf : Cfg) (s : Cs) (j : Job) (r : List Job) (hC : CoSt U w L cf s) (ok : CsOk cf s) (wt : Wt cf s.asks) (hj : s.jobs = j :: r) (ha : s.asks ≠ []) (hd9 : s.done.length ≤ 1000000) :
    Calls Tryz.prog 11 #[.pointer (some ⟨L.b, 0, none⟩)] w (TickPost U L cf (tick cf s) w) := by
  have hC0 := hC
  obtain ⟨κ, VS, VW, VJ, VD, MV, AV, l, h⟩ := hC
  have hjl := h.jl
  rw [hj] at hjl
  obtain ⟨p0, ps, hjs⟩ : ∃ p ps, L.js = p :: ps := by
    cases e : L.js with
    | nil => rw [e] at hjl; simp at hjl
    | cons p ps => exact ⟨p, ps, rfl⟩
  obtain ⟨qb, qo, qc, rfl, q0⟩ := h.jq.cell (i := 0) (p := p0) (by rw [hjs]; rfl)
  obtain ⟨m, hm⟩ : ∃ m, L.js.length = m + 1 := ⟨ps.length, by rw [hjs]; rfl⟩
  have hd := h.hd
  rw [hm] at hd
  have b5 : w.cell? ⟨L.b, 5, none⟩ = some (.slice (some ⟨qb, qo, none⟩) (m + 1) qc) := blk_cell hd 5 rfl
  rw [Nat.add_zero] at q0
  unfold ptr at q0
  obtain ⟨tv, dv, hp, _, _⟩ := h.ja 0 j p0 (by rw [hj]; rfl) (by rw [hjs]; rfl)
  rw [if_pos rfl, if_pos rfl] at hp
  obtain ⟨n, hn⟩ : ∃ n, s.asks.length = n := ⟨_, rfl⟩
  have hn9 : n ≤ 8 := by have := ok.few; omega
  have hn1 : 1 ≤ n := by
    have := List.length_pos_iff.2 ha
    omega
  have hal : L.az.length = n := by rw [h.al, hn]
  have ho := h.aq.1
  rw [hal] at ho
  obtain ⟨ga, cA, rfl, _⟩ := own_form ho (by omega)
  have hga : L.ga = some ga := by simpa [Value.ownBlock] using h.aq.2.symm
  have p13 : w.cell? ⟨p0, 13, none⟩ = some (.slice (some ⟨ga, 0, none⟩) n cA) := blk_cell hp 13 rfl
  have HI0 : As (TkI U L cf s w n 0 s.whom s.asks [] (.slice none 0 0) w) := ⟨⟨ok, wt, hn, by simpa [Value.ownBlock] using hC0, OutI.nil _ _, Kp.refl _ _, by simp [Value.ownBlock], Nat.le_refl _, rfl⟩⟩
  have HGA := As.mk hga
  have HJ := As.mk (And.intro hj (And.intro hjs (And.intro ha hd9)))
  have hN0 : ¬ n = 0 := by omega
  have hN1 : ((n : Int) == 0) = false := by simp; omega
  have hM1 : ((m : Int) + 1 == 0) = false := by simp; omega
  have HN := As.mk hn
  clear h hd hp hm hjl hC0 ok wt hj hjs ha hal ho hga hd9 hn
  go_enter Tryz.func11, Tryz.ntmps11
  go_wp2_with fail
  go_loopw [4, 56] (fun v i wr => ∃ (k : Nat) (wh : List Nat) (az : List Ask) (out : List Msg), i = .int .i64 (k : Int) ∧ k ≤ n ∧ As (TkI U L cf s w n k wh az out v wr)) (fun _ i _ => n - (intOf i).toNat)
  case atStart => exact ⟨0, s.whom, s.asks, [], rfl, by omega, HI0⟩
  case round =>
    obtain ⟨k, wh, az, out, rfl, hk, HI⟩ := hrel
    by_cases hlt : k < n
    · have hlen := HI.out.len
      obtain ⟨a, haz⟩ : ∃ a, az[k]? = some a := ⟨_, List.getElem?_eq_getElem (by omega)⟩
      obtain ⟨p, hpk, hpm⟩ := HI.out.st.azp (k := k) (by show k < az.length; omega)
      have c0 := HI.out.st.askPtr HGA.out hpk
      unfold ptr at c0
      have hA := HI.out.st.askAt hpk haz
      obtain ⟨hpl, x1, x2, x5, x6, x7, x8, fz⟩ := hA.cells
      have f5 := fz 5
      have hwt := HI.out.wt a (List.mem_of_getElem? haz)
      have hst := tkGo_step cf (n - (k + 1)) k wh az out a haz
      rw [show n - (k + 1) + 1 = n - k by omega] at hst
      have hgo := hst.symm.trans HI.out.go
      have hokc := HI.out.ok.cfg
      have i0 : (0 : Int) ≤ (k : Int) := by omega
      have i1 : (k : Int) < (n : Int) := by omega
      have j0 : (0 : Int) ≤ (a.waited : Int) := by omega
      have j1 : (a.waited : Int) ≤ 1000 := by have := hokc.pat; omega
      cases han : a.answered with
      | true =>
        rw [han] at x8
        rw [if_pos han] at hgo
        have HX : As (TkI U L cf s w n (k + 1) wh az out u4 wr) := ⟨⟨HI.out.ok, HI.out.wt, HI.out.len, HI.out.st, HI.out.out, HI.out.kp, HI.out.own, Nat.le_succ_of_le HI.out.few, hgo⟩⟩
        clear hst hgo hA fz hwt hokc hpk haz hlen han
        go_wp2_with fail
        go_roundw
        case rel => exact ⟨k + 1, wh, az, out, by go_num, by omega, HX⟩
        case measure => simp [intOf]; omega
      | false =>
        rw [han] at x8
        rw [if_neg (by rw [han]; simp)] at hgo
        have h3 := HI.out.st
        obtain ⟨κ', VS', VW', VJ', VD', MV', AV', l', h'⟩ := h3
        have b1 : wr.cell? ⟨L.b, 1, none⟩ = some (.int .i64 (cf.pat : Int)) := blk_cell h'.hd 1 rfl
        have b2 : wr.cell? ⟨L.b, 2, none⟩ = some (.int .i64 (cf.tries : Int)) := blk_cell h'.hd 2 rfl
        have hpb : ¬ p = L.b := by
          have e1 := h'.sep.az p (List.mem_of_getElem? hpk)
          have e2 := h'.sep.b
          intro e
          rw [e] at e1
          omega
        have hbp : ¬ L.b = p := fun e => hpb e.symm
        by_cases hw1 : a.waited + 1 < cf.pat
        · rw [if_pos hw1] at hgo
          have HX : As (∀ wX, Kp [] (wr.setCell ⟨p, 5, none⟩ (.int .i64 ((a.waited : Int) + 1))) wX → TkI U L cf s w n (k + 1) wh (az.set k { a with waited := a.waited + 1 }) out u4 wX) := ⟨fun wX kX => by
            obtain ⟨g1, g2, g3, g4, _⟩ := HI.out.wait hpk hpm haz kX
            exact ⟨g4, HI.out.wt.set k hw1, by rw [List.length_set]; exact hlen, g1, g2, g3, HI.out.own, Nat.le_succ_of_le HI.out.few, hgo⟩⟩
          have d1 : decide ((a.waited : Int) + 1 < (cf.pat : Int)) = true := by simp; omega
          clear hst hgo hA fz hwt hokc hpk haz hlen han h' hw1
          go_wp2_with fail
          go_quiet (fail)
          go_wp2_with fail
          go_roundw
          case rel => exact ⟨k + 1, wh, _, out, by go_num, by omega, ⟨HX.out _ (by first | exact (Kp.refl [] _).drewN _ | exact (Kp.refl [] _).drew | exact Kp.refl [] _)⟩⟩
          case measure => simp [intOf]; omega
        · rw [if_neg hw1] at hgo
          have d1 : decide ((a.waited : Int) + 1 < (cf.pat : Int)) = false := by simp; omega
          by_cases ht1 : cf.tries ≤ a.tried
          · rw [if_pos ht1] at hgo
            have d2 : decide (cf.tries ≤ a.tried) = true := by simpa using ht1
            have HE := As.mk (fun wX kX => HI.out.ends hpk hpm haz (wX := wX) kX HJ.out.1 HJ.out.2.1 HJ.out.2.2.2)
            have HT := As.mk (tick_end (cf := cf) HJ.out.1 HJ.out.2.2.1 (by rw [HN.out]; exact hgo.symm))
            clear hst hgo hA fz hwt hokc hpk haz hlen han h' hw1 ht1
            go_wp2_with fail
            go_quiet (fail)
            go_wp2_with fail
            go_quiet (fail)
            go_wp2_with (go_at_call 32; refine (HE.out _ (by first | exact (Kp.refl [] _).drewN _ | exact ((Kp.refl [] _).drewN _).drewN _)).mono ?_; rintro en w2 ⟨rfl, HF⟩)
            go_ret
            obtain ⟨L', q1, q2, q3, q4⟩ := HF.out
            rw [HT.out]
            exact ⟨L', _, rfl, q1, q2, q3, q4⟩
          · rw [if_neg ht1] at hgo
            have d2 : decide (cf.tries ≤ a.tried) = false := by simpa using ht1
            have aok := HI.out.ok.asks a (List.mem_of_getElem? haz)
            obtain ⟨vs, ho, hov, hms⟩ := HI.out.out
            obtain ⟨nm, hnm⟩ : ∃ m, out.length = m := ⟨_, rfl⟩
            rw [hnm] at ho
            have hnm8 : nm ≤ 8 := by have := HI.out.few; omega
            obtain ⟨fl, hfl⟩ : ∃ m, a.frame.length = m := ⟨_, rfl⟩
            obtain ⟨dd, hdd⟩ : ∃ m, dest cf (nextW cf wh a.shard) a.shard = m := ⟨_, rfl⟩
            obtain ⟨bS, oS, cS, Ab, Ao, nj, cj, cw, wi, rfl, hbS, s0, hAb, rfl, w1', fw1, e2, hlt2, h7, e7, _⟩ := h'.dest HI.out.ok aok.shard
            have HRS := As.mk (fun q => HI.out.resend hpk hpm haz (by rw [han]; simp) hw1 ht1 q e2 e7 hdd hfl hnm hlt ⟨ho, hms⟩)
            have b3 : wr.cell? ⟨L.b, 3, none⟩ = some (.slice (some ⟨bS, oS, none⟩) cf.shards.length cS) := blk_cell h'.hd 3 rfl
            have b4 : wr.cell? ⟨L.b, 4, none⟩ = some (.slice (some ⟨L.gw, 0, none⟩) wh.length cw) := blk_cell h'.hd 4 rfl
            have hgp : ¬ L.gw = p := by
              have e1 := h'.sep.az p (List.mem_of_getElem? hpk)
              have e2 := h'.sep.gw
              intro e
              rw [← e] at e1
              omega
            have hbp2 : ¬ bS = p := fun e => hbS (by rw [e]; exact List.mem_append.2 (.inl hpm))
            have hwl := HI.out.ok.wlen
            have hwl : wh.length = cf.shards.length := hwl
            have hsh := aok.shard
            have t0 : (0 : Int) ≤ (a.shard : Int) := by omega
            have t1 : (a.shard : Int) < (cf.shards.length : Int) := by omega
            have t2 : (a.shard : Int) < (wh.length : Int) := by omega
            have t3 : IntKind.i64.wrap ((wi : Int) + 1) = (wi : Int) + 1 := by rw [IntKind.wrap_i64]; omega
            have t4 : (0 : Int) ≤ (wi : Int) + 1 := by omega
            have t5 : ¬ (nj : Int) = 0 := by omega
            have t6 : ((wi : Int) + 1).tmod (nj : Int) = (((wi + 1) % nj : Nat) : Int) := by rw [Int.tmod_eq_emod_of_nonneg (by omega)]; rfl
            clear hst hgo hA fz hwt hokc hlen han h' hw1 ht1 hsh hwl ho hov hms hnm hfl hdd e2 e7
            go_wp2_with fail
            go_quiet (fail)
            go_wp2_with fail
            go_quiet (fail)
            go_upto_region 22 with fail
            go_cut [92] from 92 to 126 (fun _ wx => ∃ q : Nat, wx = ((wr.setCell ⟨p, 5, none⟩ (.int .i64 ((a.waited : Int) + 1))).drewN q).setCell ⟨L.gw, a.shard, none⟩ (.int .i64 (((wi : Int) + 1) % (nj : Int))))
            case first =>
              -- PART R
              go_region
              go_wp2_with fail
              go_meet
              exact ⟨_, rfl⟩
              -- END R
            case rest =>
              obtain ⟨q, rfl⟩ := hcut
              go_wp2_with (first
                | (go_at_call 31; refine (HRS.out _).mono ?_; rintro e w2 ⟨A2, c2, rfl, HOW, HFI⟩)
                | (at_builtin; refine wpList_app rfl (.tmp 127) (.tmp 131) 31 rfl 44 (.agg #[.int .i64 0, .int .i64 0, .slice none 0 0]) 3 40 Tryz.underlying31 info_msg rfl (by decide) u4 nm vs rfl HOW.out (some ⟨w2.heap.size, 0, none⟩) 1 1 [.int .i64 (cf.id : Int), .int .i64 dd, .slice A2 fl c2] rfl rfl (rd_new w2 _ _) (by simp) (by simp [Value.oneCell']) (by omega) (by omega) ?_; intro v3 w3 o3 k3 a3 _; have HF3 := As.mk (HFI.out v3 w3 o3 k3 (by simpa using a3)); clear o3 k3 a3))
              go_roundw
              case rel => exact ⟨k + 1, _, _, _, by go_num, by omega, HF3⟩
              case measure => simp [intOf]; omega
    · obtain rfl : k = n := by omega
      go_wp2_with fail
      go_ret
      have hgo := HI.out.go
      rw [Nat.sub_self] at hgo
      rw [tick_go HJ.out.1 HJ.out.2.2.1 (by rw [HN.out]; exact hgo.symm)]
      refine ⟨L, _, rfl, HI.out.st.kp (Kp.refl [] wr) (by simp) (fun x hx => .inl (List.mem_append.2 (.inr hx))), HI.out.out, Grew.refl _ _, HI.out.kp⟩
end Go.Proofs.YtdiljpdohmeceaaGreat.co

/- haystacklaw24.known: two shards are asked. -/
namespace Go.Proofs.YtdiljpdohmeceaaGreat.co
open Go.RowKit H O opk frame wir

/-- a row of messages, read -/
theorem OutI.form {S : List Nat} {w : World} {v : Value} {ms : List Msg} (h : OutI S w v ms) : ∃ A c, v = .slice A ms.length c ∧ ms.length ≤ c ∧ (A = none → c = 0) := by
  obtain ⟨vs, h1, _, _⟩ := h
  obtain ⟨A, c, rfl, h2, _, _, h3⟩ := own_rd h1
  exact ⟨A, c, rfl, h2, h3⟩
theorem MsOk.get {S : List Nat} {w : World} : ∀ {l : List Msg} {vs : List Value} {i : Nat} {m : Msg}, MsOk S w l vs → l[i]? = some m → ∃ dv, vs[i * 3]? = some (.int .i64 m.frm) ∧ vs[i * 3 + 1]? = some (.int .i64 m.dst) ∧ vs[i * 3 + 2]? = some dv ∧ BSl S w dv m.data
  | [], _, _, _, _, h => by simp at h
  | x :: l, vs, 0, m, ⟨dv, b, h1, h2, _⟩, h => by
    cases h
    subst h1
    exact ⟨dv, rfl, rfl, rfl, h2⟩
  | x :: l, vs, i + 1, m, ⟨dv, b, h1, _, h3⟩, h => by
    subst h1
    obtain ⟨d, g1, g2, g3, g4⟩ := MsOk.get h3 (i := i) (m := m) (by simpa using h)
    refine ⟨d, ?_, ?_, ?_, g4⟩
    · rw [show (i + 1) * 3 = i * 3 + 3 by omega]; exact g1
    · rw [show (i + 1) * 3 + 1 = i * 3 + 1 + 3 by omega]; exact g2
    · rw [show (i + 1) * 3 + 2 = i * 3 + 2 + 3 by omega]; exact g3
theorem OutI.at {S : List Nat} {w : World} {g n c : Nat} {ms : List Msg} (h : OutI S w (.slice (some ⟨g, 0, none⟩) n c) ms) {i : Nat} {m : Msg} (hi : ms[i]? = some m) :
    ∃ dv, w.cell? ⟨g, i * 3, none⟩ = some (.int .i64 m.frm) ∧ w.cell? ⟨g, i * 3 + 1, none⟩ = some (.int .i64 m.dst) ∧ w.cell? ⟨g, i * 3 + 2, none⟩ = some dv ∧ BSl (g :: S) w dv m.data := by
  obtain ⟨vs, h1, _, h3⟩ := h
  have hn : ms.length = n := by
    rcases h1.2 with ⟨e, _⟩ | ⟨_, _, _, e, _⟩
    · cases e
    · cases e; rfl
  have hl := (List.getElem?_eq_some_iff.1 hi).1
  obtain ⟨dv, g1, g2, g3, g4⟩ := h3.get hi
  rw [← hn] at h1
  exact ⟨dv, by rw [h1.cellAt _ (by omega)]; exact g1, by rw [h1.cellAt _ (by omega)]; exact g2, by rw [h1.cellAt _ (by omega)]; exact g3, by simpa [Value.ownBlock] using g4⟩
theorem OutI.pos {S : List Nat} {w : World} {v : Value} {ms : List Msg} (h : OutI S w v ms) (hp : 0 < ms.length) : ∃ g c, v = .slice (some ⟨g, 0, none⟩) ms.length c ∧ ms.length ≤ c ∧ g ∉ S := by
  obtain ⟨vs, h1, h2, _⟩ := h
  obtain ⟨g, c, rfl, h3, _⟩ := own_form h1 hp
  exact ⟨g, c, rfl, h3, h2 g rfl⟩

/-- a literal of two rows of numbers -/
theorem ri_two (w : World) (xs ys : List Int) (n m : Nat) (hn : xs.length = n) (hm : ys.length = m) (t u : TypeId) :
    Ri [] (((w.alloc (.cells (iv .i64 xs).toArray t)).alloc (.cells (iv .i64 ys).toArray t)).alloc (.cells #[.slice (some ⟨w.heap.size, 0, none⟩) n n, .slice (some ⟨w.heap.size + 1, 0, none⟩) m m] u)) (some ⟨w.heap.size + 1 + 1, 0, none⟩) [xs, ys] := by
  subst hn hm
  obtain ⟨w1, h1⟩ : ∃ w1, w1 = w.alloc (.cells (iv .i64 xs).toArray t) := ⟨_, rfl⟩
  obtain ⟨w2, h2⟩ : ∃ w2, w2 = w1.alloc (.cells (iv .i64 ys).toArray t) := ⟨_, rfl⟩
  have s1 : w1.heap.size = w.heap.size + 1 := by rw [h1]; simp
  have s2 : w2.heap.size = w.heap.size + 1 + 1 := by rw [h2, World.size_alloc, s1]
  rw [← h1, ← h2]
  obtain ⟨W, hW⟩ : ∃ W, W = w2.alloc (.cells #[.slice (some ⟨w.heap.size, 0, none⟩) xs.length xs.length, .slice (some ⟨w.heap.size + 1, 0, none⟩) ys.length ys.length] u) := ⟨_, rfl⟩
  rw [← hW]
  have k12 : Kp [] w1 w2 := by rw [h2]; exact (Kp.refl [] w1).alloc _
  have k2W : Kp [] w2 W := by rw [hW]; exact (Kp.refl [] w2).alloc _
  have r1 : Rd W (some ⟨w.heap.size, 0, none⟩) (iv .i64 xs) := by
    have := rd_new w (iv .i64 xs) t
    rw [← h1] at this
    exact (k12.trans k2W (by simp)).rd_new this (by simp)
  have r2 : Rd W (some ⟨w.heap.size + 1, 0, none⟩) (iv .i64 ys) := by
    have := rd_new w1 (iv .i64 ys) t
    rw [← h2, s1] at this
    exact k2W.rd_new this (by simp)
  have hb : W.heap[w.heap.size + 1 + 1]? = some (.cells #[.slice (some ⟨w.heap.size, 0, none⟩) xs.length xs.length, .slice (some ⟨w.heap.size + 1, 0, none⟩) ys.length ys.length] u) := by
    rw [← s2, hW]
    exact heap_alloc_new w2 _
  intro j hj
  match j, hj with
  | 0, hj => exact ⟨_, _, _, rfl, by simp, by rw [Addr.add_lit]; exact blk_cell hb 0 rfl, Nat.le_refl _, by simp, RdS.new r1 (Kp.refl [] W) (by simp)⟩
  | 1, hj => exact ⟨_, _, _, rfl, by simp, by rw [Addr.add_lit]; exact blk_cell hb 1 rfl, Nat.le_refl _, by simp, RdS.new r2 (Kp.refl [] W) (by simp)⟩

def kCfg : Cfg := ⟨20, 5, 3, [[0, 1], [1, 2]]⟩
theorem grp01 : Grp [0, 1] := ⟨by decide, fun i h => by
  have : i = 0 ∨ i = 1 := by simp at h; omega
  rcases this with rfl | rfl
  · exact ⟨by simp, by omega⟩
  · exact ⟨by simp, fun _ => by simp⟩⟩
theorem grp12 : Grp [1, 2] := ⟨by decide, fun i h => by
  have : i = 0 ∨ i = 1 := by simp at h; omega
  rcases this with rfl | rfl
  · exact ⟨by simp, by omega⟩
  · exact ⟨by simp, fun _ => by simp⟩⟩
theorem newCs_ok {cf : Cfg} (h : CfgOk cf) : CsOk cf (newCs cf.shards.length) := by
  refine ⟨h, by simp [newCs], fun i h1 h2 => ?_, by simp [newCs], by simp [newCs], fun _ => rfl, by simp [newCs]⟩
  have := (h.grp _ (List.getElem_mem h2)).1
  simp [newCs]
  omega
theorem kCfg_ok : CfgOk kCfg := ⟨by decide, by decide, by decide, by decide, fun x hx => by
  simp only [kCfg, List.mem_cons, List.not_mem_nil, or_false] at hx
  rcases hx with rfl | rfl
  · exact grp01
  · exact grp12⟩
theorem CsOk.more {cf : Cfg} {s : Cs} (h : CsOk cf s) {j : Job} (hj : JobOk j) : CsOk cf (gives s j) := by
  refine ⟨h.cfg, h.wlen, h.whom, fun x hx => ?_, h.asks, fun e => ?_, h.few⟩
  · rcases List.mem_append.1 hx with e | e
    · exact h.jobs x e
    · have : x = j := by simpa using e
      rw [this]; exact hj
  · have e : s.jobs ++ [j] = [] := e
    simp at e
theorem jFind_ok {p : List Int} (h : p.length ≤ 64) (hw : Wf p) : JobOk (jFind p) := ⟨by show 1 ≤ 4 ∧ 4 ≤ 4; omega, fun e => absurd rfl e, ⟨by show p.length ≤ 4096; omega, hw⟩⟩

set_option maxHeartbeats 8000000 in
set_option maxRecDepth 100000 in
theorem known_any (w : World) : Calls Tryz.prog 7 #[] w fun e w' => e = .returned (.bool true) ∧ Kp [] w w' := by
  have kc := fun (w : World) (C : Array Value) (n c : Nat) => Lib.run_convert_bytes_const (P := Tryz.prog) w 24 5 C n c Tryz.underlying24 Tryz.underlying5
  have H1 : As (Calls Tryz.prog 24 #[.int .i64 20, .int .i64 5, .int .i64 3, .slice (some ⟨w.heap.size + 1 + 1, 0, none⟩) 2 2] (((w.alloc (.cells #[.int .i64 0, .int .i64 1] 3)).alloc (.cells #[.int .i64 1, .int .i64 2] 3)).alloc (.cells #[.slice (some ⟨w.heap.size, 0, none⟩) 2 2, .slice (some ⟨w.heap.size + 1, 0, none⟩) 2 2] 53)) fun e w' => ∃ L : Lay, e = .returned (.tuple #[.pointer (some ⟨L.b, 0, none⟩), .int .i64 0]) ∧
      As (CoSt [] w' L kCfg (newCs 2) ∧ (∀ x ∈ L.all, w.heap.size ≤ x) ∧ Kp [] w w')) := ⟨by
    refine (new_good 20 5 3 (some ⟨w.heap.size + 1 + 1, 0, none⟩) 2 2 [[0, 1], [1, 2]] _ rfl (ri_two w [0, 1] [1, 2] 2 2 rfl rfl _ _) kCfg_ok.grp (by decide) (by decide) (by decide) (by decide)).mono ?_
    rintro e w' ⟨L, rfl, hc, hl, hk⟩
    have k0 : Kp [] w (((w.alloc (.cells #[.int .i64 0, .int .i64 1] 3)).alloc (.cells #[.int .i64 1, .int .i64 2] 3)).alloc (.cells #[.slice (some ⟨w.heap.size, 0, none⟩) 2 2, .slice (some ⟨w.heap.size + 1, 0, none⟩) 2 2] 53)) := (((Kp.refl [] w).alloc _).alloc _).alloc _
    exact ⟨L, rfl, ⟨hc.out [] (by simp), fun x hx => Nat.le_trans k0.size (hl x hx), k0.trans hk (by simp)⟩⟩⟩
  have H2 : As (∀ wX L, CoSt [] wX L kCfg (newCs 2) → Calls Tryz.prog 25 #[.pointer (some ⟨L.b, 0, none⟩), .slice (some ⟨wX.heap.size, 0, none⟩) 1 1] (wX.alloc (.cells (iv .u8 [120]).toArray 5 (1, 2))) fun e w' => ∃ L' : Lay, e = .returned (.tuple #[.int .i64 0, .int .i64 0]) ∧ L'.b = L.b ∧ As (CoSt [] w' L' kCfg (gives (newCs 2) (jFind [120])) ∧ (∀ x ∈ L'.all, x ∈ L.all ∨ wX.heap.size ≤ x) ∧ Kp L.all wX w')) := ⟨fun wX L hC => by
    have kA : Kp [] wX (wX.alloc (.cells (iv .u8 [120]).toArray 5 (1, 2))) := (Kp.refl [] wX).alloc _
    have h := find_any [] (wX.alloc (.cells (iv .u8 [120]).toArray 5 (1, 2))) L kCfg (newCs 2) (some ⟨wX.heap.size, 0, none⟩) 1 1 [120] (hC.kp kA (by simp) (by simp)) (newCs_ok kCfg_ok) (by decide) rfl (rds_mark (S := []) wX (iv .u8 [120]) 5 (1, 2) (by simp)).rd (by simp) (by omega)
    rw [if_pos (by decide)] at h
    refine h.mono ?_
    rintro e w' ⟨rfl, L', q1, q2, q3⟩
    exact ⟨L', rfl, q2.1, ⟨q1, fun x hx => (q2.2 x hx).imp id (fun e => by simp at e; omega), (kA.mono (by simp)).trans q3 (fun x hx => .inl hx)⟩⟩⟩
  have htk : (tick kCfg (gives (newCs 2) (jFind [120]))).2 = [⟨20, 0, frameOf kCfg 0 (jFind [120]) 1 0⟩, ⟨20, 1, frameOf kCfg 0 (jFind [120]) 2 1⟩] := rfl
  have H3 : As (∀ wX L, CoSt [] wX L kCfg (gives (newCs 2) (jFind [120])) → Calls Tryz.prog 11 #[.pointer (some ⟨L.b, 0, none⟩)] wX fun e w' => ∃ g c, e = .returned (.slice (some ⟨g, 0, none⟩) 2 c) ∧ w'.cell? ⟨g, 0, none⟩ = some (.int .i64 20) ∧ w'.cell? ⟨g, 1, none⟩ = some (.int .i64 0) ∧ w'.cell? ⟨g, 4, none⟩ = some (.int .i64 1) ∧ As (Kp L.all wX w')) := ⟨fun wX L hC => by
    have hj : JobOk (jFind [120]) := jFind_ok (by decide) (by intro x hx; simp at hx; omega)
    refine (tick_begin [] wX L kCfg _ (jFind [120]) [] hC ((newCs_ok kCfg_ok).more hj) rfl rfl (by decide) (by decide)).mono ?_
    rintro e w' ⟨L', v, rfl, q1, q2, q3, q4⟩
    rw [htk] at q2
    obtain ⟨g, c, rfl, _, _⟩ := q2.pos (by simp)
    obtain ⟨_, c0, c1, _⟩ := q2.at (i := 0) rfl
    obtain ⟨_, _, c4, _⟩ := q2.at (i := 1) rfl
    exact ⟨g, c, rfl, c0, c1, c4, ⟨q4⟩⟩⟩
  clear htk
  go_enter Tryz.func7, Tryz.ntmps7
  go_wp2_with (first
    | (go_at_call 24; refine H1.out.mono ?_; rintro e w1 ⟨L, rfl, HN⟩; have HF := As.mk (H2.out w1 L HN.out.1); clear H1 H2)
    | (go_at_call 25; refine HF.out.mono ?_; rintro e w2 ⟨L2, rfl, hb, HN2⟩; have HT := H3.out w2 L2 HN2.out.1; rw [hb] at HT; have HT := As.mk HT; clear HF H3 hb)
    | (go_at_call 11; refine HT.out.mono ?_; rintro e w3 ⟨g, c, rfl, c0, c1, c4, HN3⟩; clear HT))
  go_ret
  refine ⟨rfl, ?_⟩
  have hs := HN.out.2.2.size
  have k2 := HN.out.2.2.trans HN2.out.2.2 (fun x hx => .inr (HN.out.2.1 x hx))
  exact k2.trans HN3.out (fun x hx => .inr ((HN2.out.2.1 x hx).elim (fun e => HN.out.2.1 x e) (fun e => by omega)))
end Go.Proofs.YtdiljpdohmeceaaGreat.co
