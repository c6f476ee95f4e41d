/- haystacklaw24: the pair: one who asks, and the document's. -/
import Derived.Test.YtdiljpdohmeceaaGreatCrK
import Derived.Test.YtdiljpdohmeceaaGreatCo6
namespace Go.Proofs.YtdiljpdohmeceaaGreat.co
open Go.RowKit H O opk frame wir
open cr (RLay RsSt RNewJ RGrew)

def lCfg (id pat tr : Nat) : Cfg := ⟨id, pat, tr, [[0, 1, 2], [1, 3]]⟩
theorem grp012 : Grp [0, 1, 2] := ⟨by decide, fun i h => by
  have : i = 0 ∨ i = 1 ∨ i = 2 := by simp at h; omega
  rcases this with rfl | rfl | rfl
  · exact ⟨by simp, by omega⟩
  · exact ⟨by simp, fun _ => by simp⟩
  · exact ⟨by simp, fun _ => by simp⟩⟩
theorem grp13 : Grp [1, 3] := ⟨by decide, fun i h => by
  have : i = 0 ∨ i = 1 := by simp at h; omega
  rcases this with rfl | rfl
  · exact ⟨by simp, by omega⟩
  · exact ⟨by simp, fun _ => by simp⟩⟩
theorem lCfg_grp (id pat tr : Nat) : ∀ x ∈ (lCfg id pat tr).shards, Grp x := fun x hx => by
  simp only [lCfg, List.mem_cons, List.not_mem_nil, or_false] at hx
  rcases hx with rfl | rfl
  · exact grp012
  · exact grp13
theorem lCfg_ok {id pat tr : Nat} (h1 : 7 ≤ id ∧ id ≤ 255) (h2 : 1 ≤ pat ∧ pat ≤ 1000) (h3 : 1 ≤ tr ∧ tr ≤ 1000) : CfgOk (lCfg id pat tr) := ⟨h1, h2, h3, by show 1 ≤ 2 ∧ 2 ≤ 8; omega, lCfg_grp id pat tr⟩
/-- the pair -/
structure PairP (U : List Nat) (w : World) (P : Nat) (L : Lay) (M : RLay) (cf : Cfg) (s t : Cs) (WV : Value) : Prop where
  hd : w.heap[P]? = some (.cells #[.pointer (some ⟨L.b, 0, none⟩), .pointer (some ⟨M.b, 0, none⟩), WV] 33 (0, 0))
  c : CoSt (P :: (M.all ++ U)) w L cf s
  x : RsSt (P :: (L.all ++ U)) w M cf t
theorem CoSt.apart {U : List Nat} {w : World} {L : Lay} {cf : Cfg} {s : Cs} (h : CoSt U w L cf s) : ∀ x ∈ U, x ∉ L.all := by
  obtain ⟨κ, VS, VW, VJ, VD, MV, AV, l, h⟩ := h
  intro x hx hm
  have := (h.sep.U x hx).1
  have := (h.sep.pos hm).1
  omega
theorem cr.RsSt.apart {U : List Nat} {w : World} {L : RLay} {cf : Cfg} {s : Cs} (h : RsSt U w L cf s) : ∀ x ∈ U, x ∉ L.all := by
  obtain ⟨κ, VS, VW, VL, VA, VD, h⟩ := h
  intro x hx hm
  have := (h.sep.U x hx).1
  have := (h.sep.pos hm).1
  omega
theorem PairP.kp {U V : List Nat} {w w1 : World} {P : Nat} {L : Lay} {M : RLay} {cf : Cfg} {s t : Cs} {WV : Value} (h : PairP U w P L M cf s t WV) (k : Kp V w w1) (hV : ∀ x ∈ V, x ∈ U ∨ w.heap.size ≤ x) (hP : P ∉ V) : PairP U w1 P L M cf s t WV :=
  ⟨k.blk h.hd hP, h.c.kp k (fun x hx => (hV x hx).imp (fun e => by simp [e]) id) (fun x hx => .inl hx), h.x.kp k (fun x hx => (hV x hx).imp (fun e => by simp [e]) id) (fun x hx => .inl hx)⟩
/-- the program's one goes on -/
theorem PairP.prog {U : List Nat} {w w1 : World} {P : Nat} {L L1 : Lay} {M : RLay} {cf : Cfg} {s t s1 : Cs} {WV : Value} (h : PairP U w P L M cf s t WV) (hc : CoSt (P :: (M.all ++ U)) w1 L1 cf s1) (g : Grew w L L1) (k : Kp L.all w w1) : PairP U w1 P L1 M cf s1 t WV := by
  refine ⟨?_, hc, h.x.kp k (fun x hx => .inl (by simp [hx])) (fun x hx => ?_)⟩
  · rw [g.1]
    exact k.blk h.hd (h.c.apart P (by simp))
  · have hlt := hc.lt
    simp only [List.mem_cons, List.mem_append] at hx ⊢
    rcases hx with e | e | e
    · exact .inl (.inl e)
    · rcases g.2 x e with e2 | e2
      · exact .inl (.inr (.inl e2))
      · exact .inr ⟨e2, hlt x (List.mem_append.2 (.inl e))⟩
    · exact .inl (.inr (.inr e))
/-- the document's goes on -/
theorem PairP.docu {U : List Nat} {w w1 : World} {P : Nat} {L : Lay} {M M1 : RLay} {cf : Cfg} {s t t1 : Cs} {WV : Value} (h : PairP U w P L M cf s t WV) (hc : RsSt (P :: (L.all ++ U)) w1 M1 cf t1) (g : RGrew w M M1) (k : Kp M.all w w1) : PairP U w1 P L M1 cf s t1 WV := by
  refine ⟨?_, h.c.kp k (fun x hx => .inl (by simp [hx])) (fun x hx => ?_), hc⟩
  · rw [g.1]
    exact k.blk h.hd (cr.RsSt.apart h.x P (by simp))
  · have hlt := hc.lt
    simp only [List.mem_cons, List.mem_append] at hx ⊢
    rcases hx with e | e | e
    · exact .inl (.inl e)
    · rcases g.2 x e with e2 | e2
      · exact .inl (.inr (.inl e2))
      · exact .inr ⟨e2, hlt x (List.mem_append.2 (.inl e))⟩
    · exact .inl (.inr (.inr e))

set_option maxHeartbeats 4000000 in
set_option maxRecDepth 100000 in
theorem start_good (id pat tr : Nat) (w : World) (h1 : 7 ≤ id ∧ id ≤ 255) (h2 : 1 ≤ pat ∧ pat ≤ 1000) (h3 : 1 ≤ tr ∧ tr ≤ 1000) :
    Calls Tryz.prog 8 #[.int .i64 (id : Int), .int .i64 (pat : Int), .int .i64 (tr : Int)] w fun e w' => ∃ P L M, e = .returned (.tuple #[.pointer (some ⟨P, 0, none⟩), .bool true]) ∧
      As (∀ U, (∀ x ∈ U, x < w.heap.size) → PairP U w' P L M (lCfg id pat tr) (newCs 2) (newCs 2) (.slice none 0 0)) ∧ As ((∀ x ∈ P :: (L.all ++ M.all), w.heap.size ≤ x) ∧ Kp [] w w') := by
  have H1 : As (Calls Tryz.prog 24 #[.int .i64 (id : Int), .int .i64 (pat : Int), .int .i64 (tr : Int), .slice (some ⟨w.heap.size + 1 + 1, 0, none⟩) 2 2] (((w.alloc (.cells #[.int .i64 0, .int .i64 1, .int .i64 2] 3)).alloc (.cells #[.int .i64 1, .int .i64 3] 3)).alloc (.cells #[.slice (some ⟨w.heap.size, 0, none⟩) 3 3, .slice (some ⟨w.heap.size + 1, 0, none⟩) 2 2] 53)) fun e w' => ∃ L : Lay, e = .returned (.tuple #[.pointer (some ⟨L.b, 0, none⟩), .int .i64 0]) ∧
      As ((∀ U, (∀ x ∈ U, x < w.heap.size) → CoSt U w' L (lCfg id pat tr) (newCs 2)) ∧ (∀ x ∈ L.all, w.heap.size ≤ x) ∧ Kp [] w w')) := ⟨by
    refine (new_good id pat tr (some ⟨w.heap.size + 1 + 1, 0, none⟩) 2 2 [[0, 1, 2], [1, 3]] _ rfl (ri_two w [0, 1, 2] [1, 3] 3 2 rfl rfl _ _) (lCfg_grp id pat tr) h1 h2 h3 (by decide)).mono ?_
    rintro e w' ⟨L, rfl, hc, hl, hk⟩
    have k0 : Kp [] w (((w.alloc (.cells #[.int .i64 0, .int .i64 1, .int .i64 2] 3)).alloc (.cells #[.int .i64 1, .int .i64 3] 3)).alloc (.cells #[.slice (some ⟨w.heap.size, 0, none⟩) 3 3, .slice (some ⟨w.heap.size + 1, 0, none⟩) 2 2] 53)) := (((Kp.refl [] w).alloc _).alloc _).alloc _
    exact ⟨L, rfl, ⟨fun U hU => hc.out U (fun x hx => Nat.lt_of_lt_of_le (hU x hx) k0.size), fun x hx => Nat.le_trans k0.size (hl x hx), k0.trans hk (by simp)⟩⟩⟩
  have H2 : As (∀ w : World, Calls Tryz.prog 26 #[.int .i64 (id : Int), .int .i64 (pat : Int), .int .i64 (tr : Int), .slice (some ⟨w.heap.size + 1 + 1, 0, none⟩) 2 2] (((w.alloc (.cells #[.int .i64 0, .int .i64 1, .int .i64 2] 3)).alloc (.cells #[.int .i64 1, .int .i64 3] 3)).alloc (.cells #[.slice (some ⟨w.heap.size, 0, none⟩) 3 3, .slice (some ⟨w.heap.size + 1, 0, none⟩) 2 2] 53)) fun e w' => ∃ L : RLay, e = .returned (.tuple #[.pointer (some ⟨L.b, 0, none⟩), .int .i64 0]) ∧
      As ((∀ U, (∀ x ∈ U, x < w.heap.size) → RsSt U w' L (lCfg id pat tr) (newCs 2)) ∧ (∀ x ∈ L.all, w.heap.size ≤ x) ∧ Kp [] w w')) := ⟨fun w => by
    refine (cr.new_good id pat tr (some ⟨w.heap.size + 1 + 1, 0, none⟩) 2 2 [[0, 1, 2], [1, 3]] _ rfl (ri_two w [0, 1, 2] [1, 3] 3 2 rfl rfl _ _) (lCfg_grp id pat tr) h1 h2 h3 (by decide)).mono ?_
    rintro e w' ⟨L, rfl, hc, hl, hk⟩
    have k0 : Kp [] w (((w.alloc (.cells #[.int .i64 0, .int .i64 1, .int .i64 2] 3)).alloc (.cells #[.int .i64 1, .int .i64 3] 3)).alloc (.cells #[.slice (some ⟨w.heap.size, 0, none⟩) 3 3, .slice (some ⟨w.heap.size + 1, 0, none⟩) 2 2] 53)) := (((Kp.refl [] w).alloc _).alloc _).alloc _
    exact ⟨L, rfl, ⟨fun U hU => hc.out U (fun x hx => Nat.lt_of_lt_of_le (hU x hx) k0.size), fun x hx => Nat.le_trans k0.size (hl x hx), k0.trans hk (by simp)⟩⟩⟩
  clear h1 h2 h3
  go_enter Tryz.func8, Tryz.ntmps8
  go_wp2_with (first
    | (go_at_call 24; refine H1.out.mono ?_; rintro e w1 ⟨L, rfl, HL⟩; clear H1)
    | (go_at_call 26; refine (H2.out _).mono ?_; rintro e w2 ⟨M, rfl, HM⟩; clear H2))
  go_ret2
  have k1 := HL.out.2.2
  have k2 := HM.out.2.2
  have kA : Kp [] w2 (w2.alloc (.cells #[.pointer (some ⟨L.b, 0, none⟩), .pointer (some ⟨M.b, 0, none⟩), .slice none 0 0] 33)) := (Kp.refl [] w2).alloc _
  have s1 := k1.size
  have s2 := k2.size
  refine ⟨w2.heap.size, L, M, rfl, ⟨fun U hU => ⟨heap_alloc_new w2 _, ?_, ?_⟩⟩, ⟨fun x hx => ?_, (k1.trans k2 (by simp)).trans kA (by simp)⟩⟩
  · have h := HL.out.1 U hU
    have hm : ∀ x ∈ M.all, x < w2.heap.size := fun x hx => (HM.out.1 [] (by simp)).lt x (List.mem_append.2 (.inl hx))
    refine h.kp (k2.trans kA (by simp)) (by simp) (fun x hx => ?_)
    simp only [List.mem_cons, List.mem_append, World.size_alloc] at hx ⊢
    rcases hx with e | e | e
    · right; omega
    · have := hm x e
      have := HM.out.2.1 x e
      right; omega
    · exact .inl e
  · have hl : ∀ x ∈ L.all, x < w1.heap.size := fun x hx => (HL.out.1 [] (by simp)).lt x (List.mem_append.2 (.inl hx))
    have h := HM.out.1 (L.all ++ U) (fun x hx => (List.mem_append.1 hx).elim (fun e => hl x e) (fun e => by have := hU x e; omega))
    refine h.kp kA (by simp) (fun x hx => ?_)
    rcases List.mem_cons.1 hx with e | e
    · right; simp; omega
    · exact .inl e
  · simp only [List.mem_cons, List.mem_append] at hx
    rcases hx with e | e | e
    · omega
    · exact HL.out.2.1 x e
    · have := HM.out.2.1 x e; omega
end Go.Proofs.YtdiljpdohmeceaaGreat.co
