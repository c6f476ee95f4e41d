/- A shard's nodes, a map as bytes and back, what a change does: the plain words. -/
import Derived.Test.YtiabdeciadfiiaaBase
namespace Go.Proofs.Ytiabdeciadfiiaa.O
open Go.RowKit H opk

/-- a place of a shard's nodes is as it may be -/
def grpAt (xs : List Int) (i : Nat) : Prop := 0 ≤ xs.getD i 0 ∧ xs.getD i 0 < 7 ∧ (0 < i → xs.getD (i - 1) 0 < xs.getD i 0)
instance (xs : List Int) (i : Nat) : Decidable (grpAt xs i) := by unfold grpAt; infer_instance
/-- nodes are a shard's -/
def grp (xs : List Int) : Bool := decide ((∀ i, i < xs.length → grpAt xs i) ∧ 1 ≤ xs.length ∧ xs.length ≤ 7)
theorem grp_iff {xs : List Int} : grp xs = true ↔ (∀ i, i < xs.length → grpAt xs i) ∧ 1 ≤ xs.length ∧ xs.length ≤ 7 := by simp [grp]
theorem grp_bd {xs : List Int} (h : grp xs = true) : ∀ x ∈ xs, 0 ≤ x ∧ x ≤ 4611686018427387904 := by
  intro x hx
  obtain ⟨i, hi, rfl⟩ := List.mem_iff_getElem.1 hx
  have h1 := (grp_iff.1 h).1 i hi
  unfold grpAt at h1
  rw [List.getD_eq_getElem?_getD, List.getElem?_eq_getElem hi] at h1
  simp at h1
  omega
theorem grp_len {xs : List Int} (h : grp xs = true) : 1 ≤ xs.length ∧ xs.length ≤ 7 := (grp_iff.1 h).2
theorem grp_nil : grp [] = false := by simp [grp]

/-- nodes as bytes -/
def nodesB (xs : List Int) : List Int := num (xs.length : Int) ++ nums xs
/-- a map's shards as bytes -/
def gridB (l : List (List Int)) : List Int := num (l.length : Int) ++ l.flatMap nodesB
theorem nodesB_len (xs : List Int) : (nodesB xs).length ≤ 9 + 9 * xs.length := by
  have h1 := num_len (xs.length : Int)
  have h2 := nums_len xs
  rw [nodesB, List.length_append]
  omega
theorem nodesB_wf (xs : List Int) : Wf (nodesB xs) := fun x hx => by
  rcases List.mem_append.1 hx with h | h
  · exact num_u8 _ x h
  · exact nums_u8 _ x h
theorem gridB_wf (l : List (List Int)) : Wf (gridB l) := fun x hx => by
  rcases List.mem_append.1 hx with h | h
  · exact num_u8 _ x h
  · obtain ⟨y, _, hy⟩ := List.mem_flatMap.1 h
    exact nodesB_wf y x hy
/-- how much a map's shards are -/
def gSize (l : List (List Int)) : Nat := (l.map fun x => 1 + x.length).sum
theorem gSize_len (l : List (List Int)) : l.length ≤ gSize l := by
  induction l with
  | nil => simp
  | cons x l ih => simp only [gSize, List.map_cons, List.sum_cons, List.length_cons] at ih ⊢; omega
theorem gSize_mem {l : List (List Int)} {x : List Int} (h : x ∈ l) : 1 + x.length ≤ gSize l := by
  induction l with
  | nil => cases h
  | cons y l ih =>
    simp only [gSize, List.map_cons, List.sum_cons] at ih ⊢
    rcases List.mem_cons.1 h with rfl | h
    · omega
    · have := ih h; omega
theorem gSize_step (l : List (List Int)) (k : Nat) (h : k < l.length) : gSize (l.take (k + 1)) = gSize (l.take k) + 1 + l[k].length := by
  rw [take_succ' l k h, gSize, List.map_append, List.sum_append, List.map_singleton, List.sum_singleton, ← Nat.add_assoc]
  rfl
theorem gSize_take (l : List (List Int)) (k : Nat) : gSize (l.take k) ≤ gSize l := by
  have e : l = l.take k ++ l.drop k := (List.take_append_drop k l).symm
  conv => rhs; rw [e]
  simp only [gSize, List.map_append, List.sum_append]
  omega
theorem rowsB_len (l : List (List Int)) : (l.flatMap nodesB).length ≤ 9 * gSize l := by
  induction l with
  | nil => simp
  | cons x l ih =>
    have h1 := nodesB_len x
    simp only [gSize, List.flatMap_cons, List.map_cons, List.sum_cons, List.length_append] at ih ⊢
    omega
theorem gridB_len (l : List (List Int)) : (gridB l).length ≤ 9 + 9 * gSize l := by
  have h1 := num_len (l.length : Int)
  have h2 := rowsB_len l
  rw [gridB, List.length_append]
  omega
theorem rowsB_step (l : List (List Int)) (k : Nat) (h : k < l.length) : (l.take (k + 1)).flatMap nodesB = (l.take k).flatMap nodesB ++ nodesB l[k] := by
  rw [take_succ' l k h, List.flatMap_append, List.flatMap_singleton]

/-- nodes are read; what is none errs -/
def rdN (s : Option (List Int)) : List Int × Option (List Int) :=
  if 7 < (stNum s).1 then ([], none)
  else ((stNums (stNum s).1 (stNum s).2).1, if grp (stNums (stNum s).1 (stNum s).2).1 = true then (stNums (stNum s).1 (stNum s).2).2 else none)
theorem rdN_none : (rdN none).2 = none := by
  have e : stNum none = (0, none) := rfl
  simp [rdN, e, stNums, grp_nil]
def rdIter : Nat → Option (List Int) → List (List Int) × Option (List Int)
  | 0, s => ([], s)
  | k + 1, s => ((rdIter k s).1 ++ [(rdN (rdIter k s).2).1], (rdN (rdIter k s).2).2)
theorem rdIter_len (k : Nat) (s : Option (List Int)) : (rdIter k s).1.length = k := by
  induction k with
  | zero => rfl
  | succ k ih => simp [rdIter, ih]
theorem rdIter_stay {s : Option (List Int)} {k j : Nat} (h : (rdIter k s).2 = none) (hj : k ≤ j) : (rdIter j s).2 = none := by
  induction j with
  | zero => obtain rfl : k = 0 := by omega
            exact h
  | succ j ih =>
    by_cases e : k = j + 1
    · rw [← e]; exact h
    · simp only [rdIter]
      rw [ih (by omega), rdN_none]
/-- shards are read -/
def rdG (s : Option (List Int)) : List (List Int) × Option (List Int) :=
  if 8 < (stNum s).1 then ([], none) else rdIter (stNum s).1 (stNum s).2

theorem left_num {s : Option (List Int)} {m : Nat} (h : (left s).length ≤ m) : (left (stNum s).2).length ≤ m := by
  cases s with
  | none => simpa [stNum] using h
  | some l =>
    simp only [left, Option.getD_some] at h
    cases hd : dec l with
    | none => simp [stNum, hd, left]
    | some p =>
      obtain ⟨v, r⟩ := p
      obtain ⟨q, e, _⟩ := dec_suffix hd
      simp only [stNum, hd, left, Option.getD_some]
      have := congrArg List.length e
      simp only [List.length_append] at this
      omega
theorem left_rdN {s : Option (List Int)} {m : Nat} (h : (left s).length ≤ m) : (left (rdN s).2).length ≤ m := by
  unfold rdN
  split
  · simp [left]
  · dsimp only
    split
    · exact reader.stNums_left (left_num h)
    · simp [left]
theorem left_rdIter {s : Option (List Int)} {m : Nat} (h : (left s).length ≤ m) (k : Nat) : (left (rdIter k s).2).length ≤ m := by
  induction k with
  | zero => exact h
  | succ k ih => exact left_rdN ih
theorem left_rdG {s : Option (List Int)} {m : Nat} (h : (left s).length ≤ m) : (left (rdG s).2).length ≤ m := by
  unfold rdG
  split
  · simp [left]
  · exact left_rdIter (left_num h) _

theorem num_none {k : Nat} {q : Option (List Int)} (h : stNum none = (k, q)) : q = none := by simp [stNum] at h; exact h.2.symm
/-- what is read is written so -/
theorem rdN_canon {s : Option (List Int)} {r : List Int} (hw : Wf (left s)) (h : (rdN s).2 = some r) : s = some (nodesB (rdN s).1 ++ r) ∧ grp (rdN s).1 = true := by
  obtain ⟨n, s1, hn⟩ : ∃ n s1, stNum s = (n, s1) := ⟨_, _, rfl⟩
  unfold rdN at h ⊢
  rw [hn] at h ⊢
  dsimp only at h ⊢
  split at h
  · cases h
  · rename_i h7
    rw [if_neg h7]
    dsimp only at h ⊢
    split at h
    · rename_i hg
      refine ⟨?_, hg⟩
      cases s1 with
      | none => rw [stNums_none] at h; cases h
      | some l =>
        obtain ⟨e, hl⟩ := stNum_canon hw hn
        have e2 := stNums_canon n (s := some l) (by simpa [left] using hl) h
        simp only [Option.some.injEq] at e2
        rw [e, nodesB, reader.stNums_len, List.append_assoc, ← e2]
    · cases h
theorem wf_left {s : Option (List Int)} {p r : List Int} (hw : Wf (left s)) (e : s = some (p ++ r)) : Wf r := fun x hx => hw x (by simp [e, left, hx])
theorem rdIter_canon : ∀ (k : Nat) {s : Option (List Int)} {r : List Int}, Wf (left s) → (rdIter k s).2 = some r → s = some ((rdIter k s).1.flatMap nodesB ++ r) ∧ ∀ x ∈ (rdIter k s).1, grp x = true
  | 0, s, r, _, h => by
    have : s = some r := h
    rw [this]
    simp [rdIter]
  | k + 1, s, r, hw, h => by
    simp only [rdIter] at h ⊢
    cases hk : (rdIter k s).2 with
    | none => rw [hk, rdN_none] at h; cases h
    | some l =>
      obtain ⟨e, hg⟩ := rdIter_canon k hw hk
      have hl : Wf (left (some l)) := by simpa [left] using wf_left hw e
      rw [hk] at h
      obtain ⟨e2, hg2⟩ := rdN_canon hl h
      refine ⟨?_, ?_⟩
      · simp only [Option.some.injEq] at e2
        rw [List.flatMap_append, List.flatMap_singleton, List.append_assoc, ← e2]
        exact e
      · intro x hx
        rcases List.mem_append.1 hx with hx | hx
        · exact hg x hx
        · have : x = (rdN (some l)).1 := by simpa using hx
          rw [this]; exact hg2
theorem rdG_canon {s : Option (List Int)} {r : List Int} (hw : Wf (left s)) (h : (rdG s).2 = some r) : s = some (gridB (rdG s).1 ++ r) ∧ (∀ x ∈ (rdG s).1, grp x = true) ∧ (rdG s).1.length ≤ 8 := by
  obtain ⟨n, s1, hn⟩ : ∃ n s1, stNum s = (n, s1) := ⟨_, _, rfl⟩
  unfold rdG at h ⊢
  rw [hn] at h ⊢
  dsimp only at h ⊢
  split at h
  · cases h
  · rename_i h8
    rw [if_neg h8]
    cases s1 with
    | none => rw [rdIter_stay (k := 0) rfl (Nat.zero_le _)] at h; cases h
    | some l =>
      obtain ⟨e, hl⟩ := stNum_canon hw hn
      obtain ⟨e2, hg⟩ := rdIter_canon n (s := some l) (by simpa [left] using hl) h
      refine ⟨?_, hg, by rw [rdIter_len]; omega⟩
      simp only [Option.some.injEq] at e2
      rw [e, gridB, rdIter_len, List.append_assoc, ← e2]

/-- what is written is read so -/
theorem stNums_nums' : ∀ (l : List Int) (r : List Int), (∀ x ∈ l, 0 ≤ x ∧ x ≤ 4611686018427387904) → stNums l.length (some (nums l ++ r)) = (l, some r)
  | [], r, _ => rfl
  | x :: l, r, h => by
    have hx := h x (by simp)
    have e : stNum (some (nums (x :: l) ++ r)) = (O.cl x, some (nums l ++ r)) := by rw [nums_cons, List.append_assoc]; exact stNum_num _ _
    have ih := stNums_nums' l r (fun y hy => h y (by simp [hy]))
    simp only [List.length_cons, stNums, e, ih, cl_of hx.1 hx.2]
theorem cl_nat {n : Nat} (h : n ≤ 4611686018427387904) : O.cl (n : Int) = n := by have := cl_of (n := (n : Int)) (by omega) (by omega); omega
theorem rdN_nodes {xs : List Int} (r : List Int) (h : grp xs = true) : rdN (some (nodesB xs ++ r)) = (xs, some r) := by
  have hl := grp_len h
  have e : stNum (some (nodesB xs ++ r)) = (xs.length, some (nums xs ++ r)) := by rw [nodesB, List.append_assoc, stNum_num, cl_nat (by omega)]
  simp only [rdN, e]
  rw [if_neg (by omega), stNums_nums' xs r (grp_bd h), if_pos h]
theorem rdIter_rows {l : List (List Int)} (h : ∀ x ∈ l, grp x = true) (r : List Int) : ∀ k, k ≤ l.length → rdIter k (some (l.flatMap nodesB ++ r)) = (l.take k, some ((l.drop k).flatMap nodesB ++ r))
  | 0, _ => by simp [rdIter]
  | k + 1, hk => by
    have ih := rdIter_rows h r k (by omega)
    have e : l.drop k = l[k] :: l.drop (k + 1) := List.drop_eq_getElem_cons (by omega)
    simp only [rdIter, ih]
    rw [e, List.flatMap_cons, List.append_assoc, rdN_nodes _ (h _ (List.getElem_mem _)), take_succ' l k (by omega)]
theorem rdG_grid {l : List (List Int)} (r : List Int) (h : ∀ x ∈ l, grp x = true) (h8 : l.length ≤ 8) : rdG (some (gridB l ++ r)) = (l, some r) := by
  have e : stNum (some (gridB l ++ r)) = (l.length, some (l.flatMap nodesB ++ r)) := by rw [gridB, List.append_assoc, stNum_num, cl_nat (by omega)]
  simp only [rdG, e]
  rw [if_neg (by omega), rdIter_rows h r l.length (Nat.le_refl _), List.take_length, List.drop_length]
  simp

/-- what a change does to a map: its version, its shards, an error -/
def mDo (ver : Nat) (sh : List (List Int)) (data : List Int) : Nat × List (List Int) × Int :=
  if (stNum (some data)).1 = 1 then
    (if (rdG (stNum (some data)).2).2 = some [] ∧ (rdG (stNum (some data)).2).1 ≠ [] then
      (if 0 < ver then (ver, sh, 8) else (1, (rdG (stNum (some data)).2).1, 0))
    else (ver, sh, 3))
  else if (stNum (some data)).1 = 2 then
    (if (rdN (stNums 2 (stNum (some data)).2).2).2 = some [] ∧ 1 ≤ (stNum (stNum (some data)).2).1 ∧ (stNum (stNum (some data)).2).1 ≤ 1099511627776 ∧ (stNum (stNum (stNum (some data)).2).2).1 < 8 then
      (if sh.length ≤ (stNum (stNum (stNum (some data)).2).2).1 then (ver, sh, 7)
       else if (stNum (stNum (some data)).2).1 ≠ ver then (ver, sh, 13)
       else (ver + 1, sh.set (stNum (stNum (stNum (some data)).2).2).1 (rdN (stNums 2 (stNum (some data)).2).2).1, 0))
    else (ver, sh, 3))
  else (ver, sh, 3)
/-- behind Apply of the number index: the map, the number of the last change, what is said -/
def mApply (ver : Nat) (sh : List (List Int)) (done : Int) (index : Int) (data : List Int) : (Nat × List (List Int) × Int) × List Int :=
  if index = done + 1 then (((mDo ver sh data).1, (mDo ver sh data).2.1, index), repBytes (mDo ver sh data).2.2 [((mDo ver sh data).1 : Int)]) else ((ver, sh, done), [])
/-- Found's bytes -/
def foundB (l : List (List Int)) : List Int := num 1 ++ gridB l
/-- may shards be a map's? -/
def gOk (l : List (List Int)) : Bool := decide ((1 ≤ l.length ∧ l.length ≤ 8) ∧ ∀ x ∈ l, grp x = true)
def moveB (v s : Int) (l : List Int) : List Int := nums [2, v, s] ++ nodesB l
def mvOk (v s : Int) (l : List Int) : Bool := decide ((1 ≤ v ∧ v ≤ 1099511627776) ∧ (0 ≤ s ∧ s < 8) ∧ grp l = true)
/-- bytes as a map -/
def mDec (xs : List Int) : Nat × List (List Int) × Int :=
  if (rdG (stNum (some xs)).2).2 = some [] ∧ (stNum (some xs)).1 ≤ 1099511627776 ∧ ((stNum (some xs)).1 = 0 ↔ (rdG (stNum (some xs)).2).1 = []) then ((stNum (some xs)).1, (rdG (stNum (some xs)).2).1, 0) else (0, [], 3)
def mapB (v : Int) (l : List (List Int)) : List Int := num v ++ gridB l

theorem mDo_found {ver : Nat} {sh l : List (List Int)} (h : gOk l = true) : mDo ver sh (foundB l) = if 0 < ver then (ver, sh, 8) else (1, l, 0) := by
  simp only [gOk, decide_eq_true_eq] at h
  have e : stNum (some (foundB l)) = (1, some (gridB l ++ [])) := by rw [foundB, List.append_nil]; exact stNum_num 1 _
  have e2 := rdG_grid [] h.2 h.1.2
  have hne : l ≠ [] := by intro h0; rw [h0] at h; simp at h
  simp only [mDo, e, e2, if_true]
  rw [if_pos ⟨trivial, hne⟩]
theorem mDo_move {ver : Nat} {sh : List (List Int)} {v s : Int} {l : List Int} (h : mvOk v s l = true) : mDo ver sh (moveB v s l) = if sh.length ≤ s.toNat then (ver, sh, 7) else if v ≠ ver then (ver, sh, 13) else (ver + 1, sh.set s.toNat l, 0) := by
  simp only [mvOk, decide_eq_true_eq] at h
  obtain ⟨⟨h1, h2⟩, ⟨h3, h4⟩, h5⟩ := h
  have e : stNum (some (moveB v s l)) = (2, some (num v ++ (num s ++ (nodesB l ++ [])))) := by
    have : moveB v s l = num 2 ++ (num v ++ (num s ++ (nodesB l ++ []))) := by simp [moveB, nums_cons, nums_nil]
    rw [this]; exact stNum_num 2 _
  have c1 := cl_of (n := v) (by omega) (by omega)
  have c2 := cl_of (n := s) (by omega) (by omega)
  have e1 : stNum (some (num v ++ (num s ++ (nodesB l ++ [])))) = (O.cl v, some (num s ++ (nodesB l ++ []))) := stNum_num v _
  have e2 : stNum (some (num s ++ (nodesB l ++ []))) = (O.cl s, some (nodesB l ++ [])) := stNum_num s _
  have e3 := rdN_nodes [] h5
  have e4 : (stNums 2 (some (num v ++ (num s ++ (nodesB l ++ []))))).2 = some (nodesB l ++ []) := by simp only [stNums, e1, e2]
  simp only [mDo, e, e1, e2, e4, e3]
  rw [if_neg (by decide), if_pos trivial, if_pos ⟨trivial, by omega, by omega, by omega⟩]
  have hs : O.cl s = s.toNat := by omega
  rw [hs]
  have hv : (O.cl v ≠ ver) ↔ (v ≠ ver) := by omega
  simp only [hv]
/-- a change leaves a map a map -/
def MapOk (ver : Nat) (sh : List (List Int)) : Prop := ver ≤ 1099511627777 ∧ sh.length ≤ 8 ∧ (∀ x ∈ sh, x.length ≤ 7) ∧ (ver = 0 ↔ sh = [])
theorem rdG_ok {s : Option (List Int)} (hw : Wf (left s)) (h : (rdG s).2 = some []) : (rdG s).1.length ≤ 8 ∧ ∀ x ∈ (rdG s).1, x.length ≤ 7 := by
  obtain ⟨_, h1, h2⟩ := rdG_canon hw h
  exact ⟨h2, fun x hx => (grp_len (h1 x hx)).2⟩
theorem wf_num {s : Option (List Int)} (hw : Wf (left s)) : Wf (left (stNum s).2) := by
  cases h : (stNum s).2 with
  | none => simp [left]; exact Wf.nil
  | some r =>
    obtain ⟨n, s1, hn⟩ : ∃ n s1, stNum s = (n, s1) := ⟨_, _, rfl⟩
    rw [hn] at h
    dsimp only at h
    subst h
    simpa [left] using (stNum_canon hw hn).2
theorem mDo_ok {ver : Nat} {sh : List (List Int)} {data : List Int} (hw : Wf data) (h : MapOk ver sh) : MapOk (mDo ver sh data).1 (mDo ver sh data).2.1 := by
  have hw1 : Wf (left (stNum (some data)).2) := wf_num (by simpa [left] using hw)
  unfold mDo
  split
  · split
    · rename_i hg
      split
      · exact h
      · obtain ⟨g1, g2⟩ := rdG_ok hw1 hg.1
        exact ⟨by show (1 : Nat) ≤ 1099511627777; decide, g1, g2, by simp [hg.2]⟩
    · exact h
  · split
    · split
      · rename_i hg
        split
        · exact h
        · split
          · exact h
          · rename_i h7 h13
            obtain ⟨k1, k2, k3, k4⟩ := h
            have h0 : (stNum (stNum (some data)).2).1 = ver := Classical.not_not.1 h13
            have hw2 : Wf (left (stNums 2 (stNum (some data)).2).2) := by simp only [stNums]; exact wf_num (wf_num hw1)
            refine ⟨by omega, by simpa using k2, ?_, ?_⟩
            · intro x hx
              rcases List.mem_or_eq_of_mem_set hx with hx | rfl
              · exact k3 x hx
              · exact (grp_len (rdN_canon hw2 hg.1).2).2
            · constructor
              · intro h9; simp at h9
              · intro h9
                have := congrArg List.length h9
                rw [List.length_set] at this
                have h8 : sh.length = 0 := this
                omega
      · exact h
    · exact h
theorem mDec_ok {xs : List Int} (hw : Wf xs) : MapOk (mDec xs).1 (mDec xs).2.1 ∧ ((mDec xs).2.2 ≠ 0 → (mDec xs).2.2 = 3) := by
  have hw1 : Wf (left (stNum (some xs)).2) := wf_num (by simpa [left] using hw)
  unfold mDec
  split
  · rename_i h
    obtain ⟨g1, g2⟩ := rdG_ok hw1 h.1
    exact ⟨⟨by omega, g1, g2, h.2.2⟩, by simp⟩
  · exact ⟨⟨by decide, by decide, by simp, by simp⟩, by simp⟩
theorem mapB_dec {xs : List Int} (hw : Wf xs) (h : (mDec xs).2.2 = 0) : mapB ((mDec xs).1 : Int) (mDec xs).2.1 = xs := by
  have hw1 : Wf (left (stNum (some xs)).2) := wf_num (by simpa [left] using hw)
  unfold mDec at h ⊢
  split at h
  · rename_i hg
    rw [if_pos hg]
    obtain ⟨n, s1, hn⟩ : ∃ n s1, stNum (some xs) = (n, s1) := ⟨_, _, rfl⟩
    rw [hn] at hg hw1 ⊢
    dsimp only at hg hw1 ⊢
    obtain ⟨e, _⟩ := rdG_canon hw1 hg.1
    rw [e] at hn
    obtain ⟨e0, _⟩ := stNum_canon (s := some xs) (by simpa [left] using hw) hn
    simp only [Option.some.injEq] at e0
    rw [mapB, e0, List.append_nil]
  · exact absurd h (by decide)
end Go.Proofs.Ytiabdeciadfiiaa.O
