/- op.DecodeReply. -/
import Derived.Test.YtlknlpiiogmfbaaRepA
import Derived.Test.YtlknlpiiogmfbaaReader2
import Derived.Deep.RegionLaw
namespace Go.Proofs.Ytlknlpiiogmfbaa.opk
open Go.RowKit H O haystacklaw13

/-- append of one number, at a step of a region that draws its order -/
theorem step64_one {w : World} {ops : Array Oper} {o : Oper} {a : Act} {K : Act → World → Prop} {Q : Exit → Act → World → Prop} {E : Prop} (hgd : o.guard = none) (s x : Operand)
    (ho : o.op = .call { callee := .builtin .append, args := #[s, x], argTypes := #[36, 36] })
    (v : Value) (n : Nat) (xs : List Value) (hs : a.eval s = v) (hown : w.ownsRow 0 3 1 v n xs) (g : Nat) (y : Int)
    (hx : a.eval x = .slice (some ⟨g, 0, none⟩) 1 1) (hc : w.cell? ⟨g, 0, none⟩ = some (.int .i64 y)) (hm : n + 1 ≤ 1000000)
    (h : ∀ v' w', w'.ownsRow 0 3 1 v' (n + 1) (xs ++ [.int .i64 y]) → Kp v.ownBlock.toList w w' → At w.heap.size v.ownBlock v'.ownBlock → K (a.put o.dst v') w') :
    if Region.wanted o (yielded ops a.tmps) = true then Oper.wp Try.prog o a w K Q else E := by
  have hw : Region.wanted o (yielded ops a.tmps) = true := by simp [Region.wanted, hgd]
  rw [if_pos hw]
  have hrd : Rd w (some ⟨g, 0, none⟩) [.int .i64 y] := by
    intro j u hj
    match j, hj with
    | 0, hj => simp at hj; subst hj; exact ⟨_, rfl, by rw [add_zero']; exact hc⟩
  obtain ⟨v', w', hr, h2, h3, h4, h5⟩ := run_app (P := Try.prog) w 36 o.type 3 (.int .i64 0) 1 8 Try.underlying36 info_i64 rfl (by decide) v n xs hown (some ⟨g, 0, none⟩) 1 1 [.int .i64 y] rfl hrd (by simp) (by simp [Value.oneCell']) (by omega) (by omega)
  unfold Oper.wp execOp
  simp only [ho, resolve, invoke, builtin, Sem.run_bind, Sem.run_pure, Result.andThen_ok, List.map_toArray, List.map_cons, List.map_nil, hs, hx, hr]
  exact h v' w' h2 h3 h4

/-- what bytes are as a reply -/
def dRep (xs : List Int) : Int × List Int × Int :=
  match stNum (some xs) with
  | (n0, s1) => match stNum s1 with
    | (n1, s2) => if n0 ≤ 100 ∧ n1 ≤ 8 ∧ (stNums n1 s2).2 = some [] then ((n0 : Int), (stNums n1 s2).1, 0) else (0, [], 3)
theorem stNums_none (k : Nat) : (stNums k none).2 = none := by
  induction k with
  | zero => rfl
  | succ k ih => exact ih
theorem stNums_stay {s : Option (List Int)} {k j : Nat} (h : (stNums k s).2 = none) (hj : k ≤ j) : (stNums j s).2 = none := by
  induction j with
  | zero => obtain rfl : k = 0 := by omega
            exact h
  | succ j ih =>
    by_cases e : k = j + 1
    · rw [← e]; exact h
    · rw [reader.stNums_snoc, ih (by omega)]
      rfl
/-- the Reader behind the two numbers, or bad -/
def sRep (n0 n1 : Nat) (s2 : Option (List Int)) : Option (List Int) := if n0 ≤ 100 ∧ n1 ≤ 8 then s2 else none
theorem dRep_eq {xs : List Int} {n0 n1 : Nat} {s1 s2 : Option (List Int)} (h0 : stNum (some xs) = (n0, s1)) (h1 : stNum s1 = (n1, s2)) :
    dRep xs = if (stNums n1 (sRep n0 n1 s2)).2 = some [] then ((n0 : Int), (stNums n1 (sRep n0 n1 s2)).1, 0) else (0, [], 3) := by
  simp only [dRep, h0, h1]
  generalize hs' : sRep n0 n1 s2 = s'
  by_cases h : n0 ≤ 100 ∧ n1 ≤ 8
  · have e : s' = s2 := by rw [← hs', sRep, if_pos h]
    subst e
    by_cases h2 : (stNums n1 s').2 = some []
    · rw [if_pos h2, if_pos ⟨h.1, h.2, h2⟩]
    · rw [if_neg h2, if_neg (fun h3 => h2 h3.2.2)]
  · have e : s' = none := by rw [← hs', sRep, if_neg h]
    subst e
    rw [if_neg (fun h3 => h ⟨h3.1, h3.2.1⟩), if_neg (by rw [stNums_none]; simp)]

/-- Nums into two new numbers -/
theorem rep_nums {w : World} {b : Nat} {g : Option Nat} {s s1 s2 : Option (List Int)} {n0 n1 : Nat} (hR : reader.Rdr w b g s) (hg : ∀ x, g = some x → x < w.heap.size) (hb : (left s).length ≤ 70368744177664) (h0 : stNum s = (n0, s1)) (h1 : stNum s1 = (n1, s2)) :
    Calls Try.prog 63 #[.pointer (some ⟨b, 0, none⟩), .slice (some ⟨w.heap.size + 1 + 1, 0, none⟩) 2 2]
      (((w.alloc (.cells #[.int .i64 0] 3)).alloc (.cells #[.int .i64 0] 3)).alloc (.cells #[.pointer (some ⟨w.heap.size, 0, none⟩), .pointer (some ⟨w.heap.size + 1, 0, none⟩)] 93))
      fun e w' => e = .returned (.tuple #[]) ∧ (∃ g', reader.Rdr w' b g' s2 ∧ (g' = g ∨ g' = none)) ∧ w'.cell? ⟨w.heap.size, 0, none⟩ = some (.int .i64 n0) ∧ w'.cell? ⟨w.heap.size + 1, 0, none⟩ = some (.int .i64 n1) ∧ Kp [b] w w' ∧ w.heap.size + 1 < w'.heap.size := by
  obtain ⟨W1, hW1⟩ : ∃ W1, W1 = (w.alloc (.cells #[.int .i64 0] 3)).alloc (.cells #[.int .i64 0] 3) := ⟨_, rfl⟩
  have hs1 : W1.heap.size = w.heap.size + 1 + 1 := by rw [hW1]; simp
  have kW1 : Kp [] w W1 := by rw [hW1]; exact ((Kp.refl [] w).alloc _).alloc _
  have b0 : W1.heap[w.heap.size]? = some (.cells #[.int .i64 0] 3) := by rw [hW1]; exact heap_alloc2_old w _ _
  have b1 : W1.heap[w.heap.size + 1]? = some (.cells #[.int .i64 0] 3) := by rw [hW1]; exact heap_alloc2_new w _ _
  obtain ⟨W, hW⟩ : ∃ W, W = W1.alloc (.cells #[.pointer (some ⟨w.heap.size, 0, none⟩), .pointer (some ⟨w.heap.size + 1, 0, none⟩)] 93) := ⟨_, rfl⟩
  have kW : Kp [] W1 W := by rw [hW]; exact (Kp.refl [] W1).alloc _
  have B0 := kW.blk b0 (by simp)
  have B1 := kW.blk b1 (by simp)
  have hlb := hR.lt
  have hr : Rd W (some ⟨w.heap.size + 1 + 1, 0, none⟩) ([some ⟨w.heap.size, 0, none⟩, some ⟨w.heap.size + 1, 0, none⟩].map Value.pointer) := by
    have := rd_new W1 [.pointer (some ⟨w.heap.size, 0, none⟩), .pointer (some ⟨w.heap.size + 1, 0, none⟩)] 93
    rw [hs1] at this
    rw [hW]
    exact this
  rw [← hW1, ← hW]
  refine (reader.nums_any b g s (some ⟨w.heap.size + 1 + 1, 0, none⟩) 2 2 [some ⟨w.heap.size, 0, none⟩, some ⟨w.heap.size + 1, 0, none⟩] W (hR.kp (kW1.trans kW (by simp)) (by simp) (by simp)) hb rfl (by decide) hr ?_ ?_).mono ?_
  · intro a ha
    cases ha
    refine ⟨by show w.heap.size + 1 + 1 ≠ b; omega, fun p hp q hq => ?_⟩
    simp only [List.mem_cons, List.not_mem_nil, or_false] at hp
    rcases hp with rfl | rfl <;> cases hq
    · show w.heap.size ≠ w.heap.size + 1 + 1; omega
    · show w.heap.size + 1 ≠ w.heap.size + 1 + 1; omega
  · intro p hp q hq
    simp only [List.mem_cons, List.not_mem_nil, or_false] at hp
    rcases hp with rfl | rfl <;> cases hq
    · exact ⟨by show w.heap.size ≠ b; omega, fun h => by have h9 : w.heap.size < w.heap.size := hg _ h; omega, ⟨_, blk_cell B0 0 rfl⟩, blk_free B0 0⟩
    · exact ⟨by show w.heap.size + 1 ≠ b; omega, fun h => by have h9 : w.heap.size + 1 < w.heap.size := hg _ h; omega, ⟨_, blk_cell B1 0 rfl⟩, blk_free B1 0⟩
  · rintro e w' ⟨rfl, ⟨g', hR', hg'⟩, hos, htp, hout, hsz, hbl⟩
    have e1 : (stNums 2 s).1 = [(n0 : Int), (n1 : Int)] := by simp only [stNums, h0, h1]
    have e2 : (stNums 2 s).2 = s2 := by simp only [stNums, h0, h1]
    have hlen : [some (⟨w.heap.size, 0, none⟩ : Addr), some ⟨w.heap.size + 1, 0, none⟩].length = 2 := rfl
    rw [hlen] at hR' hbl
    rw [e1] at hbl
    rw [e2] at hR'
    have hsW := kW.size
    have kk := kW1.trans kW (by simp)
    have q0 : w'.heap[w.heap.size]? = some (.cells #[.int .i64 n0] 3) := by
      rw [hbl w.heap.size (by omega) (by omega)]
      show ((W.setCell ⟨w.heap.size, 0, none⟩ (.int .i64 n0)).setCell ⟨w.heap.size + 1, 0, none⟩ (.int .i64 n1)).heap[w.heap.size]? = _
      rw [heap_setCell_other _ _ _ _ (by show w.heap.size ≠ w.heap.size + 1; omega)]
      exact heap_setCell_same W w.heap.size 0 _ _ (.int .i64 n0) B0
    have q1 : w'.heap[w.heap.size + 1]? = some (.cells #[.int .i64 n1] 3) := by
      rw [hbl (w.heap.size + 1) (by omega) (by omega)]
      show ((W.setCell ⟨w.heap.size, 0, none⟩ (.int .i64 n0)).setCell ⟨w.heap.size + 1, 0, none⟩ (.int .i64 n1)).heap[w.heap.size + 1]? = _
      exact heap_setCell_same _ (w.heap.size + 1) 0 #[.int .i64 0] _ (.int .i64 n1) (by rw [heap_setCell_other _ _ _ _ (by show w.heap.size + 1 ≠ w.heap.size; omega)]; exact B1)
    refine ⟨rfl, ⟨g', hR', hg'⟩, blk_cell q0 0 rfl, blk_cell q1 0 rfl, ⟨hos.trans kk.os, htp.trans kk.tape, hout.trans kk.output, by omega, fun i hi hn => ?_⟩, by omega⟩
    simp only [List.mem_singleton] at hn
    rw [hbl i (by omega) hn, reader.putAll_far]
    · exact kk.block i hi (by simp)
    · intro x hx a ha
      simp only [List.zip_cons_cons, List.zip_nil_right, List.mem_cons, List.not_mem_nil, or_false] at hx
      rcases hx with rfl | rfl <;> cases ha
      · show w.heap.size ≠ i; omega
      · show w.heap.size + 1 ≠ i; omega

/-- behind DecodeReply -/
def DRep (xs : List Int) (w : World) (e : Ending) (w' : World) : Prop :=
  ∃ (er : Int) (l : List Int) (z : Int) (A : Option Addr) (n c : Nat), dRep xs = (er, l, z) ∧ e = .returned (.tuple #[.agg #[.int .i64 er, .slice A n c], .int .i64 z]) ∧ l.length = n ∧ Rd w' A (iv .i64 l) ∧ n ≤ c ∧ (A = none → c = 0) ∧ Kp [] w w'
def lenAt (w : World) (X : Nat) : Nat := match w.cell? ⟨X, 1, none⟩ with
  | some (.slice _ n _) => n
  | _ => 0
theorem RepAt.lenAt {w : World} {b : Nat} {er : Int} {A : Option Addr} {n c : Nat} (h : RepAt w b er (.slice A n c)) : lenAt w b = n := by
  unfold opk.lenAt
  rw [h.cells.2]
/-- where DecodeReply stands -/
structure DR (w wr : World) (M b X : Nat) (n0 n1 : Nat) (v : Value) (l : List Int) (s : Option (List Int)) : Prop where
  kp : Kp [] w wr
  res : RepAt wr w.heap.size 0 (.slice none 0 0)
  many : wr.cell? ⟨M, 0, none⟩ = some (.int .i64 n1)
  x : RepAt wr X n0 v
  own : wr.ownsRow 0 3 1 v l.length (iv .i64 l)
  lo : ∀ y, v.ownBlock = some y → X < y
  rdr : ∃ g, reader.Rdr wr b g s ∧ ∀ y, g = some y → w.heap.size < y ∧ y < X
  ord : w.heap.size < b ∧ w.heap.size < M ∧ b < X ∧ M < X ∧ M ≠ b
theorem DR.skip {w wr w1 : World} {M b X n0 n1 : Nat} {v : Value} {l : List Int} {s : Option (List Int)} (h : DR w wr M b X n0 n1 v l s) (k : Kp [] wr w1) : DR w w1 M b X n0 n1 v l s := by
  obtain ⟨g, hr, hg⟩ := h.rdr
  exact ⟨h.kp.trans k (by simp), h.res.kp k (by simp), k.cell h.many (by simp), h.x.kp k (by simp), k.own h.own (by simp), h.lo, ⟨g, hr.kp k (by simp) (by simp), hg⟩, h.ord⟩
/-- a number is taken -/
theorem DR.took {w wr w1 : World} {M b X n0 n1 : Nat} {v : Value} {l : List Int} {s s' : Option (List Int)} {g g' : Option Nat} (h : DR w wr M b X n0 n1 v l s) (hg : ∀ y, g = some y → w.heap.size < y ∧ y < X) (R : reader.Rdr w1 b g' s') (G : g' = g ∨ g' = none) (k : Kp [b] wr w1) : DR w w1 M b X n0 n1 v l s' := by
  obtain ⟨o1, o2, o3, o4, o5⟩ := h.ord
  have hb : ∀ x ∈ [b], x ∈ ([] : List Nat) ∨ w.heap.size ≤ x := by intro x hx; simp at hx; right; omega
  exact ⟨h.kp.trans k hb, h.res.kp k (by simp; omega), k.cell h.many (by simpa using o5), h.x.kp k (by simp; omega), k.own h.own (fun y hy => by have := h.lo y hy; simp; omega), h.lo, ⟨g', R, fun y hy => by rcases G with e | e; exact hg y (by rw [← e]; exact hy); rw [e] at hy; cases hy⟩, h.ord⟩
/-- and appended, and stored -/
theorem DR.put {w wr w2 : World} {M b X n0 n1 : Nat} {v v' : Value} {l : List Int} {s : Option (List Int)} {y : Int} {n : Nat} (h : DR w wr M b X n0 n1 v l s) (hl : l.length = n) (o : w2.ownsRow 0 3 1 v' (n + 1) (iv .i64 l ++ [.int .i64 y])) (k : Kp v.ownBlock.toList wr w2) (a : At wr.heap.size v.ownBlock v'.ownBlock) :
    w2.cell? ⟨X, 1, none⟩ = some v ∧ w2.frozen? ⟨X, 1, none⟩ = false ∧ DR w (w2.setCell ⟨X, 1, none⟩ v') M b X n0 n1 v' (l ++ [y]) s := by
  subst hl
  obtain ⟨o1, o2, o3, o4, o5⟩ := h.ord
  obtain ⟨g, hr, hg⟩ := h.rdr
  have hXlt := lt_of_block h.x
  have hX : X ∉ v.ownBlock.toList := fun hm => by have := h.lo X (by simpa using hm); omega
  have hx2 := h.x.kp k hX
  have hS : ∀ i, i < X → i ∉ v.ownBlock.toList := fun i hi hm => by have := h.lo i (by simpa using hm); omega
  have ks : Kp [X] w2 (w2.setCell ⟨X, 1, none⟩ v') := (Kp.refl _ _).setCell (.inl (by simp)) _
  have lo' : ∀ z, v'.ownBlock = some z → X < z := by
    intro z hz
    rcases a with e | ⟨j, e, hj⟩
    · exact h.lo z (by rw [← e]; exact hz)
    · rw [e] at hz; cases hz; omega
  refine ⟨hx2.cells.2, hx2.free 1, ⟨(h.kp.row k (fun z hz => .inr (by have := h.lo z hz; omega))).trans ks (by intro z hz; simp at hz; omega), (h.res.kp k (hS _ (by omega))).kp ks (by simp; omega), ks.cell (k.cell h.many (hS _ o4)) (by simp; omega), heap_setCell_same w2 X 1 _ _ v' hx2, ?_, lo', ⟨g, (hr.kp k (hS _ o3) (fun z hz => hS z (hg z hz).2)).kp ks (by simp; omega) (fun z hz => by have := hg z hz; simp; omega), hg⟩, h.ord⟩⟩
  have o' := ks.own o (fun z hz => by have := lo' z hz; simp; omega)
  rw [List.length_append, iv_app]
  exact o'
end Go.Proofs.Ytlknlpiiogmfbaa.opk
