/- Places: plain words; how they lie in memory. -/
import Derived.Test.YtlknlpiiogmfbaaOpE
import Derived.Test.YtlknlpiiogmfbaaRepD
import Derived.Test.YtlknlpiiogmfbaaLawOenc
namespace Go.Proofs.Ytlknlpiiogmfbaa.opk
open Go.RowKit H O haystacklaw13

/-- places as values: a key and a number each -/
def mv (ms : List (ByteArray × Int)) : List Value := ms.flatMap fun m => [.string m.1, .int .i64 m.2]
theorem mv_nil : mv [] = [] := rfl
theorem mv_cons (m : ByteArray × Int) (ms : List (ByteArray × Int)) : mv (m :: ms) = .string m.1 :: .int .i64 m.2 :: mv ms := rfl
theorem mv_app (a b : List (ByteArray × Int)) : mv (a ++ b) = mv a ++ mv b := by simp [mv]
theorem mv_len (ms : List (ByteArray × Int)) : (mv ms).length = ms.length * 2 := by
  induction ms with
  | nil => rfl
  | cons m ms ih => rw [mv_cons, List.length_cons, List.length_cons, ih, List.length_cons]; omega
theorem mv_get : ∀ (ms : List (ByteArray × Int)) (i : Nat) (h : i < ms.length), (mv ms)[i * 2]? = some (.string ms[i].1) ∧ (mv ms)[i * 2 + 1]? = some (.int .i64 ms[i].2)
  | m :: ms, 0, _ => ⟨rfl, rfl⟩
  | m :: ms, i + 1, h => by
    have ih := mv_get ms i (by simpa using h)
    rw [mv_cons, show (i + 1) * 2 = i * 2 + 2 by omega]
    exact ⟨ih.1, ih.2⟩
theorem mv_one (ms : List (ByteArray × Int)) : ∀ u ∈ mv ms, u.oneCell' = true := by
  intro u hu
  obtain ⟨m, _, h⟩ := List.mem_flatMap.1 hu
  simp only [List.mem_cons, List.not_mem_nil, or_false] at h
  rcases h with rfl | rfl <;> rfl
/-- a place, read: its address written out -/
theorem mv_at {w : World} {A : Option Addr} {ms : List (ByteArray × Int)} (h : Rd w A (mv ms)) (i : Nat) (hi : i < ms.length) : ∃ b o, A = some ⟨b, o, none⟩ ∧ w.cell? ⟨b, o + i * 2, none⟩ = some (.string ms[i].1) ∧ w.cell? ⟨b, o + i * 2 + 1, none⟩ = some (.int .i64 ms[i].2) := by
  obtain ⟨g0, g1⟩ := mv_get ms i hi
  obtain ⟨a, ha, c0⟩ := h _ _ g0
  obtain ⟨a', ha', c1⟩ := h _ _ g1
  rw [ha] at ha'
  cases ha'
  obtain ⟨z, hz, cz⟩ := h 0 (.string ms[0].1) (by simpa using (mv_get ms 0 (by omega)).1)
  rw [ha] at hz
  cases hz
  obtain ⟨b, o, s⟩ := a
  obtain rfl : s = none := by simpa [Addr.add] using World.cell?_spot cz
  rw [Go.WideShapes.add_plain] at c0 c1
  exact ⟨b, o, ha, c0, by rw [Nat.add_assoc]; exact c1⟩

/-- places as bytes -/
def mRow (m : ByteArray × Int) : List Int := row (kb m.1) ++ num m.2
def mRows (ms : List (ByteArray × Int)) : List Int := ms.flatMap mRow
def mBytes (ms : List (ByteArray × Int)) : List Int := num (ms.length : Int) ++ mRows ms
theorem mRows_cons (m : ByteArray × Int) (ms : List (ByteArray × Int)) : mRows (m :: ms) = mRow m ++ mRows ms := rfl
theorem mRows_step (ms : List (ByteArray × Int)) (k : Nat) (h : k < ms.length) : mRows (ms.take (k + 1)) = mRows (ms.take k) ++ (row (kb ms[k].1) ++ num ms[k].2) := by
  rw [take_succ' ms k h, mRows, List.flatMap_append, List.flatMap_singleton]
  rfl
/-- how many bytes places have -/
def mSize (ms : List (ByteArray × Int)) : Nat := (ms.map fun m => 5 + m.1.size).sum
theorem mSize_step (ms : List (ByteArray × Int)) (k : Nat) (h : k < ms.length) : mSize (ms.take (k + 1)) = mSize (ms.take k) + 5 + ms[k].1.size := by
  rw [take_succ' ms k h, mSize, List.map_append, List.sum_append, List.map_singleton, List.sum_singleton, ← Nat.add_assoc]
  rfl
theorem mSize_le (ms : List (ByteArray × Int)) (k : Nat) : mSize (ms.take k) ≤ mSize ms := by
  have e : ms = ms.take k ++ ms.drop k := (List.take_append_drop k ms).symm
  conv => rhs; rw [e]
  simp only [mSize, List.map_append, List.sum_append]
  omega
theorem mSize_len (ms : List (ByteArray × Int)) : 5 * ms.length ≤ mSize ms := by
  induction ms with
  | nil => simp
  | cons m ms ih => simp only [mSize, List.map_cons, List.sum_cons, List.length_cons] at ih ⊢; omega
theorem mRows_len (ms : List (ByteArray × Int)) : (mRows ms).length ≤ 4 * mSize ms := by
  induction ms with
  | nil => simp [mRows]
  | cons m ms ih =>
    have h1 := row_len (kb m.1)
    have h2 := num_len m.2
    rw [kb_len] at h1
    simp only [mRows_cons, mRow, mSize, List.map_cons, List.sum_cons, List.length_append] at ih ⊢
    omega
theorem mRows_wf (ms : List (ByteArray × Int)) : Wf (mRows ms) := by
  intro x hx
  obtain ⟨m, _, h⟩ := List.mem_flatMap.1 hx
  rcases List.mem_append.1 h with h | h
  · exact row_u8 _ (kb_wf _) x h
  · exact num_u8 _ x h
theorem mBytes_wf (ms : List (ByteArray × Int)) : Wf (mBytes ms) := fun x hx => by
  rcases List.mem_append.1 hx with h | h
  · exact num_u8 _ x h
  · exact mRows_wf ms x h

/-- a place is taken -/
def mStep (s : Option (List Int)) : (ByteArray × Int) × Option (List Int) :=
  ((strOfNums (stBytes s).1, ((stNum (stBytes s).2).1 : Int)), if 1 ≤ (stBytes s).1.length ∧ (stBytes s).1.length ≤ 64 then (stNum (stBytes s).2).2 else none)
def mIter : Nat → Option (List Int) → List (ByteArray × Int) × Option (List Int)
  | 0, s => ([], s)
  | k + 1, s => ((mIter k s).1 ++ [(mStep (mIter k s).2).1], (mStep (mIter k s).2).2)
theorem mIter_len (k : Nat) (s : Option (List Int)) : (mIter k s).1.length = k := by
  induction k with
  | zero => rfl
  | succ k ih => simp [mIter, ih]
theorem mStep_none : (mStep none).2 = none := rfl
theorem mIter_stay {s : Option (List Int)} {k j : Nat} (h : (mIter k s).2 = none) (hj : k ≤ j) : (mIter j s).2 = none := by
  induction j with
  | zero => obtain rfl : k = 0 := by omega
            exact h
  | succ j ih =>
    by_cases e : k = j + 1
    · rw [← e]; exact h
    · show (mStep (mIter j s).2).2 = none
      rw [ih (by omega)]
      exact mStep_none
def dMs (xs : List Int) : List (ByteArray × Int) × Int :=
  match stNum (some xs) with
  | (n, s1) => if (mIter n s1).2 = some [] then ((mIter n s1).1, 0) else ([], 3)
theorem dMs_eq {xs : List Int} {n : Nat} {s1 : Option (List Int)} (h : stNum (some xs) = (n, s1)) : dMs xs = if (mIter n s1).2 = some [] then ((mIter n s1).1, 0) else ([], 3) := by
  simp only [dMs, h]
theorem stNum_short {s : Option (List Int)} {l : List Int} (h : (stNum s).2 = some l) : l.length < (left s).length := by
  cases s with
  | none => simp [stNum] at h
  | some r =>
    cases hd : dec r with
    | none => simp [stNum, hd] at h
    | some x =>
      obtain ⟨v, q⟩ := x
      obtain ⟨p, e, hp⟩ := dec_suffix hd
      simp only [stNum, hd, Option.some.injEq] at h
      subst h
      simp only [left, Option.getD_some]
      rw [e, List.length_append]
      have : 0 < p.length := List.length_pos_iff.2 hp
      omega
theorem mStep_short {s : Option (List Int)} {l : List Int} (h : (mStep s).2 = some l) : l.length < (left s).length := by
  unfold mStep at h
  simp only at h
  split at h
  · have h1 := stNum_short h
    have h2 := stBytes_left (s := s) (Nat.le_refl _)
    omega
  · cases h
/-- So many places have come at most. -/
theorem mIter_count {s : Option (List Int)} {k : Nat} {l : List Int} (h : (mIter k s).2 = some l) : k + l.length ≤ (left s).length := by
  induction k generalizing l with
  | zero => have : s = some l := h
            subst this
            simp [left]
  | succ k ih =>
    have h' : (mStep (mIter k s).2).2 = some l := h
    have h1 := mStep_short h'
    cases e : (mIter k s).2 with
    | none => rw [e] at h'; simp [mStep_none] at h'
    | some r =>
      have := ih e
      rw [e] at h1
      simp only [left, Option.getD_some] at h1
      omega
theorem mIter_left (k : Nat) (s : Option (List Int)) : (left (mIter k s).2).length ≤ (left s).length := by
  cases e : (mIter k s).2 with
  | none => simp [left]
  | some l => have := mIter_count e; simp only [left, Option.getD_some]; simp only [left] at this; omega
theorem mStep_row {m : ByteArray × Int} {r : List Int} (hk : 1 ≤ m.1.size ∧ m.1.size ≤ 64) (hm : 0 ≤ m.2 ∧ m.2 ≤ 4611686018427387904) : mStep (some (mRow m ++ r)) = (m, some r) := by
  have h1 : stBytes (some (mRow m ++ r)) = (kb m.1, some (num m.2 ++ r)) := by
    rw [mRow, List.append_assoc]
    exact stBytes_row _ _ (by rw [kb_len]; omega)
  unfold mStep
  simp only [h1, stNum_num, kb_len, if_pos hk, cl_of hm.1 hm.2, str_kb]
end Go.Proofs.Ytlknlpiiogmfbaa.opk
