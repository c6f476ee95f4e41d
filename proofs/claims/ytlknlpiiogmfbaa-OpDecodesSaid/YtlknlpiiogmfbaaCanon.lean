/- What is read is written so: the plain words. -/
import Derived.Test.YtlknlpiiogmfbaaMatP
namespace Go.Proofs.Ytlknlpiiogmfbaa.O
open Go.RowKit H opk haystacklaw13

theorem decF_canon : ∀ (l : List Int) (i u v : Nat) (r : List Int), Wf l → decF i u l = some (v, r) → ∃ x, l = enc x ++ r ∧ v = u + x * 128 ^ i ∧ (i = 0 ∨ 0 < x)
  | [], i, u, v, r, _, h => by simp [decF] at h
  | c :: l, i, u, v, r, hw, h => by
    have hc := hw c (by simp)
    simp only [decF] at h
    split at h
    · cases h
    · rename_i h0
      split at h
      · split at h
        · cases h
        · simp only [Option.some.injEq, Prod.mk.injEq] at h
          obtain ⟨rfl, rfl⟩ := h
          refine ⟨c.toNat, ?_, rfl, by omega⟩
          rw [enc_lo (by omega)]
          simp only [List.cons_append, List.nil_append, List.cons.injEq, and_true]
          omega
      · obtain ⟨x, rfl, rfl, hx⟩ := decF_canon l (i + 1) _ v r (fun y hy => hw y (by simp [hy])) h
        refine ⟨c.toNat - 128 + 128 * x, ?_, ?_, .inr (by omega)⟩
        · rw [enc_hi (u := c.toNat - 128 + 128 * x) (by omega)]
          have e1 : (c.toNat - 128 + 128 * x) / 128 = x := by omega
          rw [e1, List.cons_append, List.cons.injEq]
          exact ⟨by omega, rfl⟩
        · have hp : 128 ^ (i + 1) = 128 ^ i * 128 := Nat.pow_succ ..
          have h1 : x * (128 ^ i * 128) = 128 * x * 128 ^ i := by rw [Nat.mul_comm (128 ^ i), ← Nat.mul_assoc, Nat.mul_comm x]
          rw [hp, h1, Nat.add_mul, Nat.add_assoc]
theorem dec_canon {l : List Int} {v : Nat} {r : List Int} (hw : Wf l) (h : dec l = some (v, r)) : l = num (v : Int) ++ r := by
  obtain ⟨x, e, hx, _⟩ := decF_canon l 0 0 v r hw h
  have hb := dec_bd h
  have e2 : cl (v : Int) = v := by have := cl_of (n := (v : Int)) (by omega) (by omega); omega
  rw [e, num, e2]
  have : v = x := by simpa using hx
  rw [this]
theorem stNum_canon {s : Option (List Int)} {n : Nat} {r : List Int} (hw : Wf (left s)) (h : stNum s = (n, some r)) : s = some (num (n : Int) ++ r) ∧ Wf r := by
  cases s with
  | none => simp [stNum] at h
  | some l =>
    cases hd : dec l with
    | none => simp [stNum, hd] at h
    | some x =>
      obtain ⟨v, q⟩ := x
      simp only [stNum, hd, Prod.mk.injEq, Option.some.injEq] at h
      obtain ⟨rfl, rfl⟩ := h
      have e := dec_canon (by simpa [left] using hw) hd
      refine ⟨congrArg some e, fun y hy => hw y ?_⟩
      simp only [left, Option.getD_some]
      rw [e]
      exact List.mem_append_right _ hy
theorem stBytes_canon {s : Option (List Int)} {p r : List Int} (hw : Wf (left s)) (h : stBytes s = (p, some r)) : s = some (row p ++ r) ∧ Wf p ∧ Wf r := by
  unfold stBytes at h
  obtain ⟨n, s1, hn⟩ : ∃ n s1, stNum s = (n, s1) := ⟨_, _, rfl⟩
  rw [hn] at h
  cases s1 with
  | none => simp [stRaw] at h
  | some l =>
    obtain ⟨e, hl⟩ := stNum_canon hw hn
    simp only [stRaw] at h
    split at h
    · cases h
    · simp only [Prod.mk.injEq, Option.some.injEq, Int.toNat_natCast] at h
      obtain ⟨rfl, rfl⟩ := h
      refine ⟨?_, Wf.take hl _, Wf.drop hl _⟩
      have hlen : (l.take n).length = n := by rw [List.length_take]; omega
      rw [e, row, hlen, List.append_assoc, List.take_append_drop]
theorem stNums_canon : ∀ (k : Nat) {s : Option (List Int)} {r : List Int}, Wf (left s) → (stNums k s).2 = some r → s = some (nums (stNums k s).1 ++ r)
  | 0, s, r, _, h => by
    have : s = some r := h
    rw [this]
    simp [stNums, nums_nil]
  | k + 1, s, r, hw, h => by
    obtain ⟨n, s1, hn⟩ : ∃ n s1, stNum s = (n, s1) := ⟨_, _, rfl⟩
    have e1 : (stNums (k + 1) s).1 = (n : Int) :: (stNums k s1).1 := by simp only [stNums, hn]
    have e2 : (stNums (k + 1) s).2 = (stNums k s1).2 := by simp only [stNums, hn]
    rw [e2] at h
    rw [e1, nums_cons]
    cases s1 with
    | none => rw [stNums_none] at h; cases h
    | some l =>
      obtain ⟨e, hl⟩ := stNum_canon hw hn
      have ih := stNums_canon k (s := some l) (by simpa [left] using hl) h
      rw [e, List.append_assoc]
      simp only [Option.some.injEq] at ih
      rw [← ih]
/-- an op's bytes -/
theorem op_canon {xs : List Int} {n0 n1 n2 : Nat} {s1 s2 s3 s4 : Option (List Int)} {p t : List Int} (hw : Wf xs) (h0 : stNum (some xs) = (n0, s1)) (h1 : stNum s1 = (n1, s2)) (h2 : stNum s2 = (n2, s3)) (h3 : stBytes s3 = (p, s4)) (h4 : stBytes s4 = (t, some [])) :
    opBytes n0 n1 n2 (strOfNums p) t = xs := by
  have hn : ∀ {k : Nat} {q : Option (List Int)}, stNum none = (k, q) → q = none := fun h => by simp [stNum] at h; exact h.2.symm
  have hbn : ∀ {k : List Int} {q : Option (List Int)}, stBytes none = (k, q) → q = none := fun h => by simp [stBytes, stNum, stRaw] at h; exact h.2.symm
  cases s4 with
  | none => cases hbn h4
  | some l4 =>
    cases s3 with
    | none => cases hbn h3
    | some l3 =>
      cases s2 with
      | none => cases hn h2
      | some l2 =>
        cases s1 with
        | none => cases hn h1
        | some l1 =>
          obtain ⟨e0, w0⟩ := stNum_canon (s := some xs) (by simpa [left] using hw) h0
          obtain ⟨e1, w1⟩ := stNum_canon (s := some l1) (by simpa [left] using w0) h1
          obtain ⟨e2, w2⟩ := stNum_canon (s := some l2) (by simpa [left] using w1) h2
          obtain ⟨e3, wp, w3⟩ := stBytes_canon (s := some l3) (by simpa [left] using w2) h3
          obtain ⟨e4, _, _⟩ := stBytes_canon (s := some l4) (by simpa [left] using w3) h4
          simp only [Option.some.injEq] at e0 e1 e2 e3 e4
          rw [opBytes_eq, kb_str wp, e0, e1, e2, e3, e4]
/-- a reply's bytes -/
theorem rep_canon {xs : List Int} {er : Int} {l : List Int} (hw : Wf xs) (h : dRep xs = (er, l, 0)) : repBytes er l = xs ∧ l.length ≤ 8 := by
  obtain ⟨n0, s1, h0⟩ : ∃ n s1, stNum (some xs) = (n, s1) := ⟨_, _, rfl⟩
  obtain ⟨n1, s2, h1⟩ : ∃ n s2, stNum s1 = (n, s2) := ⟨_, _, rfl⟩
  simp only [dRep, h0, h1] at h
  split at h
  · rename_i hc
    obtain ⟨ha, hb, hc⟩ := hc
    simp only [Prod.mk.injEq, and_true] at h
    obtain ⟨rfl, rfl⟩ := h
    cases s2 with
    | none => rw [stNums_none] at hc; cases hc
    | some l2 =>
      cases s1 with
      | none => simp [stNum] at h1
      | some l1 =>
        obtain ⟨e0, w0⟩ := stNum_canon (s := some xs) (by simpa [left] using hw) h0
        obtain ⟨e1, w1⟩ := stNum_canon (s := some l1) (by simpa [left] using w0) h1
        have e2 := stNums_canon n1 (s := some l2) (by simpa [left] using w1) hc
        have hl := reader.stNums_len n1 (some l2)
        simp only [Option.some.injEq, List.append_nil] at e0 e1 e2
        refine ⟨?_, by omega⟩
        rw [repBytes, hl, Nat.min_eq_left hb, List.take_of_length_le (by omega), e0, e1, ← e2]
        simp [nums_cons, nums_nil]
  · simp at h
theorem mStep_canon {s : Option (List Int)} {m : ByteArray × Int} {r : List Int} (hw : Wf (left s)) (h : mStep s = (m, some r)) : s = some (mRow m ++ r) ∧ Wf r ∧ m.1.size ≤ 64 := by
  obtain ⟨p, s1, hp⟩ : ∃ p s1, stBytes s = (p, s1) := ⟨_, _, rfl⟩
  obtain ⟨y, s2, hy⟩ : ∃ y s2, stNum s1 = (y, s2) := ⟨_, _, rfl⟩
  simp only [mStep, hp, hy, Prod.mk.injEq] at h
  obtain ⟨rfl, h⟩ := h
  split at h
  · rename_i hok
    subst h
    cases s1 with
    | none => simp [stNum] at hy
    | some l1 =>
      obtain ⟨e, wp, wl⟩ := stBytes_canon hw hp
      obtain ⟨e1, wr⟩ := stNum_canon (s := some l1) (by simpa [left] using wl) hy
      simp only [Option.some.injEq] at e1
      refine ⟨?_, wr, by rw [str_size]; omega⟩
      rw [e, e1, mRow, kb_str wp, List.append_assoc]
  · cases h
theorem mIter_canon : ∀ (k : Nat) {s : Option (List Int)} {r : List Int}, Wf (left s) → (mIter k s).2 = some r → s = some (mRows (mIter k s).1 ++ r) ∧ Wf r ∧ ∀ x ∈ (mIter k s).1, x.1.size ≤ 64
  | 0, s, r, hw, h => by
    have : s = some r := h
    subst this
    exact ⟨by simp [mIter, mRows], by simpa [left] using hw, by simp [mIter]⟩
  | k + 1, s, r, hw, h => by
    have h' : (mStep (mIter k s).2).2 = some r := h
    cases e : (mIter k s).2 with
    | none => rw [e] at h'; simp [mStep_none] at h'
    | some q =>
      obtain ⟨ih, wq, hs⟩ := mIter_canon k hw e
      rw [e] at h'
      obtain ⟨m, hm⟩ : ∃ m, (mStep (some q)).1 = m := ⟨_, rfl⟩
      obtain ⟨e1, wr, h64⟩ := mStep_canon (s := some q) (m := m) (r := r) (by simpa [left] using wq) (by rw [← hm, ← h'])
      have ex : (mIter (k + 1) s).1 = (mIter k s).1 ++ [m] := by rw [mIter, e, hm]
      rw [ex]
      refine ⟨?_, wr, ?_⟩
      · simp only [Option.some.injEq] at e1
        conv => lhs; rw [ih, e1]
        simp [mRows]
      · intro x hx
        rcases List.mem_append.1 hx with hx | hx
        · exact hs x hx
        · simp only [List.mem_singleton] at hx
          rw [hx]; exact h64
/-- places' bytes -/
theorem ms_canon {xs : List Int} {ms : List (ByteArray × Int)} (hw : Wf xs) (h : dMs xs = (ms, 0)) : mBytes ms = xs ∧ mSize ms ≤ 69 * ms.length := by
  obtain ⟨N, s1, h0⟩ : ∃ n s1, stNum (some xs) = (n, s1) := ⟨_, _, rfl⟩
  rw [dMs_eq h0] at h
  split at h
  · rename_i hc
    simp only [Prod.mk.injEq, and_true] at h
    subst h
    cases s1 with
    | none =>
      have := mIter_stay (s := none) (k := 0) (j := N) rfl (Nat.zero_le _)
      rw [this] at hc
      cases hc
    | some l1 =>
      obtain ⟨e0, w0⟩ := stNum_canon (s := some xs) (by simpa [left] using hw) h0
      obtain ⟨e1, _, h64⟩ := mIter_canon N (s := some l1) (by simpa [left] using w0) hc
      simp only [Option.some.injEq, List.append_nil] at e0 e1
      refine ⟨by rw [mBytes, mIter_len, ← e1, ← e0], ?_⟩
      have sz : ∀ (l : List (ByteArray × Int)), (∀ x ∈ l, x.1.size ≤ 64) → mSize l ≤ 69 * l.length := by
        intro l
        induction l with
        | nil => intro _; simp [mSize]
        | cons m l ih =>
          intro h
          have h1 := h m (by simp)
          have h2 := ih (fun x hx => h x (by simp [hx]))
          simp only [mSize, List.map_cons, List.sum_cons, List.length_cons] at h2 ⊢
          omega
      exact sz _ h64
  · simp at h
theorem dMs_len {xs : List Int} {ms : List (ByteArray × Int)} {z : Int} (h : dMs xs = (ms, z)) : ms.length ≤ xs.length := by
  obtain ⟨N, s1, h0⟩ : ∃ n s1, stNum (some xs) = (n, s1) := ⟨_, _, rfl⟩
  rw [dMs_eq h0] at h
  split at h
  · rename_i hc
    simp only [Prod.mk.injEq] at h
    rw [← h.1, mIter_len]
    have h1 := mIter_count hc
    have h2 := reader.left_le (s := some xs) (m := xs.length) (by simp [left])
    rw [h0] at h2
    simp only [List.length_nil] at h1
    simp only at h2
    omega
  · simp only [Prod.mk.injEq] at h
    rw [← h.1]
    simp
end Go.Proofs.Ytlknlpiiogmfbaa.O
