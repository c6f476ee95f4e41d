/- Numbers as bytes, and back: the plain mathematics of chapter 1. No program in sight. -/
namespace Go.Proofs.Ytlknlpiiogmfbaa.O

/-- A number as it is laid: from 0 to 2^62. -/
def cl (n : Int) : Nat := if n < 0 then 0 else if 4611686018427387904 < n then 4611686018427387904 else n.toNat
theorem cl_le (n : Int) : cl n ≤ 4611686018427387904 := by unfold cl; split <;> (try split) <;> omega
theorem cl_of {n : Int} (h0 : 0 ≤ n) (h1 : n ≤ 4611686018427387904) : (cl n : Int) = n := by unfold cl; split <;> (try split) <;> omega

theorem cl_if (x : Int) : (if min x 4611686018427387904 > 0 then min x 4611686018427387904 else 0) = (cl x : Int) := by
  unfold cl
  split <;> split <;> (try split) <;> omega
/-- Seven binary digits a byte. -/
def enc (u : Nat) : List Int := if u < 128 then [(u : Int)] else ((u : Int) % 128 + 128) :: enc (u / 128)
termination_by u
decreasing_by omega
theorem enc_lo {u : Nat} (h : u < 128) : enc u = [(u : Int)] := by rw [enc, if_pos h]
theorem enc_hi {u : Nat} (h : ¬ u < 128) : enc u = ((u : Int) % 128 + 128) :: enc (u / 128) := by rw [enc, if_neg h]

theorem enc_len : ∀ (k u : Nat), u < 128 ^ (k + 1) → (enc u).length ≤ k + 1
  | 0, u, h => by rw [enc_lo (by simpa using h)]; simp
  | k + 1, u, h => by
    by_cases h1 : u < 128
    · rw [enc_lo h1]; simp
    · rw [enc_hi h1]
      have := enc_len k (u / 128) (by rw [Nat.pow_succ] at h; omega)
      simp only [List.length_cons]
      omega
theorem enc_pos (u : Nat) : 0 < (enc u).length := by
  by_cases h : u < 128
  · rw [enc_lo h]; simp
  · rw [enc_hi h]; simp
theorem enc_u8 (u : Nat) : ∀ x ∈ enc u, 0 ≤ x ∧ x < 256 := by
  induction u using Nat.strongRecOn with
  | _ u ih =>
    by_cases h : u < 128
    · rw [enc_lo h]; intro x hx; simp at hx; omega
    · rw [enc_hi h]
      intro x hx
      rcases List.mem_cons.1 hx with rfl | hx
      · omega
      · exact ih (u / 128) (by omega) x hx

def num (n : Int) : List Int := enc (cl n)
def nums (l : List Int) : List Int := l.flatMap num
def row (x : List Int) : List Int := num x.length ++ x
def rows (l : List (List Int)) : List Int := l.flatMap row

theorem num_len (n : Int) : (num n).length ≤ 9 := enc_len 8 _ (by have := cl_le n; omega)
theorem num_pos (n : Int) : 0 < (num n).length := enc_pos _
theorem num_u8 (n : Int) : ∀ x ∈ num n, 0 ≤ x ∧ x < 256 := enc_u8 _
theorem nums_cons (n : Int) (l : List Int) : nums (n :: l) = num n ++ nums l := by simp [nums]
theorem nums_app (a b : List Int) : nums (a ++ b) = nums a ++ nums b := by simp [nums]
theorem nums_one (n : Int) : nums [n] = num n := by simp [nums]
theorem nums_nil : nums [] = [] := rfl
theorem nums_len (l : List Int) : (nums l).length ≤ 9 * l.length := by
  induction l with
  | nil => simp [nums]
  | cons x l ih => rw [nums_cons, List.length_append, List.length_cons]; have := num_len x; omega
theorem nums_u8 (l : List Int) : ∀ x ∈ nums l, 0 ≤ x ∧ x < 256 := by
  intro x hx
  obtain ⟨n, _, h⟩ := List.mem_flatMap.1 hx
  exact num_u8 n x h
theorem take_succ' {α : Type} (l : List α) (k : Nat) (h : k < l.length) : l.take (k + 1) = l.take k ++ [l[k]] := List.take_succ_eq_append_getElem h
theorem nums_step (l : List Int) (k : Nat) (h : k < l.length) : nums (l.take (k + 1)) = nums (l.take k) ++ num l[k] := by
  rw [take_succ' l k h, nums_app, nums_one]
theorem rows_app (a b : List (List Int)) : rows (a ++ b) = rows a ++ rows b := by simp [rows]
theorem rows_one (x : List Int) : rows [x] = row x := by simp [rows]
theorem rows_cons (x : List Int) (l : List (List Int)) : rows (x :: l) = row x ++ rows l := by simp [rows]
theorem rows_step (l : List (List Int)) (k : Nat) (h : k < l.length) : rows (l.take (k + 1)) = rows (l.take k) ++ row l[k] := by
  rw [take_succ' l k h, rows_app, rows_one]
theorem rows_len (l : List (List Int)) : (rows l).length ≤ 9 * l.length + l.flatten.length := by
  induction l with
  | nil => simp [rows]
  | cons x l ih =>
    rw [rows_cons, List.length_append, List.length_cons, List.flatten_cons, List.length_append]
    have h : (row x).length = (num x.length).length + x.length := by rw [row, List.length_append]
    have := num_len x.length
    omega
theorem rows_len_take (l : List (List Int)) (k : Nat) (h : k < l.length) : (rows (l.take k)).length + 9 + l[k].length ≤ 9 * l.length + l.flatten.length := by
  have h1 := rows_len (l.take k)
  have h2 : (l.take (k + 1)).flatten.length + (l.drop (k + 1)).flatten.length = l.flatten.length := by
    rw [← List.length_append, ← List.flatten_append, List.take_append_drop]
  rw [take_succ' l k h, List.flatten_append, List.length_append] at h2
  simp only [List.flatten_cons, List.flatten_nil, List.append_nil, List.length_take] at h1 h2
  omega
theorem row_u8 (x : List Int) (h : ∀ c ∈ x, 0 ≤ c ∧ c < 256) : ∀ c ∈ row x, 0 ≤ c ∧ c < 256 := by
  intro c hc
  rcases List.mem_append.1 hc with hc | hc
  · exact num_u8 _ c hc
  · exact h c hc

/-- A number is taken: from byte i on, u so far. -/
def decF : Nat → Nat → List Int → Option (Nat × List Int)
  | _, _, [] => none
  | i, u, c :: r =>
    if 9 ≤ i ∨ (0 < i ∧ c = 0) then none
    else if c < 128 then (if 4611686018427387904 < u + c.toNat * 128 ^ i then none else some (u + c.toNat * 128 ^ i, r))
    else decF (i + 1) (u + (c.toNat - 128) * 128 ^ i) r
def dec (l : List Int) : Option (Nat × List Int) := decF 0 0 l

theorem split128 (u v p : Nat) : u + v % 128 * p + v / 128 * (p * 128) = u + v * p := by
  have h1 : v / 128 * (p * 128) = 128 * (v / 128 * p) := by rw [← Nat.mul_assoc, Nat.mul_comm]
  have h2 : v * p = 128 * (v / 128 * p) + v % 128 * p := by
    have h3 : (128 * (v / 128) + v % 128) * p = 128 * (v / 128 * p) + v % 128 * p := by rw [Nat.add_mul, Nat.mul_assoc]
    rwa [Nat.div_add_mod] at h3
  omega
theorem decF_enc : ∀ (v i u : Nat) (r : List Int), (i = 0 ∨ 0 < v) → u + v * 128 ^ i ≤ 4611686018427387904 → decF i u (enc v ++ r) = some (u + v * 128 ^ i, r) := by
  intro v
  induction v using Nat.strongRecOn with
  | _ v ih =>
    intro i u r hv hb
    have hi : ¬ 9 ≤ i := by
      intro h9
      rcases hv with h | h
      · omega
      · have : 128 ^ 9 ≤ 128 ^ i := Nat.pow_le_pow_right (by decide) h9
        have h2 : 1 * 128 ^ i ≤ v * 128 ^ i := Nat.mul_le_mul_right _ h
        have h3 : (128 : Nat) ^ 9 = 9223372036854775808 := by decide
        omega
    by_cases h : v < 128
    · rw [enc_lo h]
      simp only [List.cons_append, List.nil_append, decF]
      rw [if_neg (by omega), if_pos (by omega)]
      simp only [Int.toNat_natCast]
      rw [if_neg (by omega)]
    · rw [enc_hi h]
      simp only [List.cons_append, decF]
      rw [if_neg (by omega), if_neg (by omega)]
      have e1 : ((v : Int) % 128 + 128).toNat - 128 = v % 128 := by omega
      rw [e1]
      have hp : 128 ^ (i + 1) = 128 ^ i * 128 := Nat.pow_succ ..
      have e2 : u + v % 128 * 128 ^ i + v / 128 * 128 ^ (i + 1) = u + v * 128 ^ i := by rw [hp]; exact split128 u v (128 ^ i)
      rw [ih (v / 128) (by omega) (i + 1) _ r (.inr (by omega)) (by rw [e2]; exact hb), e2]
theorem decF_enc0 (v : Nat) (r : List Int) (h : v ≤ 4611686018427387904) : decF 0 0 (enc v ++ r) = some (v, r) := by
  have e : 0 + v * 128 ^ 0 = v := by rw [Nat.pow_zero, Nat.mul_one, Nat.zero_add]
  have h0 : 0 + v * 128 ^ 0 ≤ 4611686018427387904 := Nat.le_trans (Nat.le_of_eq e) h
  exact (decF_enc v 0 0 r (.inl rfl) h0).trans (congrArg (fun x => some (x, r)) e)
theorem dec_num (n : Int) (r : List Int) : dec (num n ++ r) = some (cl n, r) := decF_enc0 (cl n) r (cl_le n)

theorem decF_bd : ∀ (l : List Int) (i u v : Nat) (r : List Int), decF i u l = some (v, r) → v ≤ 4611686018427387904 ∧ ∃ p, l = p ++ r ∧ p ≠ []
  | [], i, u, v, r, h => by simp [decF] at h
  | c :: l, i, u, v, r, h => by
    simp only [decF] at h
    split at h
    · cases h
    · split at h
      · split at h
        · cases h
        · simp only [Option.some.injEq, Prod.mk.injEq] at h
          obtain ⟨rfl, rfl⟩ := h
          exact ⟨by omega, [c], by simp⟩
      · obtain ⟨h1, p, rfl, h2⟩ := decF_bd l _ _ v r h
        exact ⟨h1, c :: p, by simp⟩
theorem dec_bd {l : List Int} {v : Nat} {r : List Int} (h : dec l = some (v, r)) : v ≤ 4611686018427387904 := (decF_bd l 0 0 v r h).1
theorem dec_suffix {l : List Int} {v : Nat} {r : List Int} (h : dec l = some (v, r)) : ∃ p, l = p ++ r ∧ p ≠ [] := (decF_bd l 0 0 v r h).2

/-! What a Reader holds: the bytes that are left, or nothing: it erred. -/
def stNum (s : Option (List Int)) : Nat × Option (List Int) :=
  match s with
  | none => (0, none)
  | some l => match dec l with
    | none => (0, none)
    | some (v, r) => (v, some r)
def stRaw (n : Int) (s : Option (List Int)) : List Int × Option (List Int) :=
  match s with
  | none => ([], none)
  | some l => if n < 0 ∨ (l.length : Int) < n then ([], none) else (l.take n.toNat, some (l.drop n.toNat))
def stBytes (s : Option (List Int)) : List Int × Option (List Int) := stRaw (stNum s).1 (stNum s).2
def stNums : Nat → Option (List Int) → List Int × Option (List Int)
  | 0, s => ([], s)
  | k + 1, s => (((stNum s).1 : Int) :: (stNums k (stNum s).2).1, (stNums k (stNum s).2).2)
def left (s : Option (List Int)) : List Int := s.getD []

theorem stNum_num (n : Int) (r : List Int) : stNum (some (num n ++ r)) = (cl n, some r) := by simp [stNum, dec_num]
theorem stBytes_row (x r : List Int) (hx : x.length ≤ 4611686018427387904) : stBytes (some (row x ++ r)) = (x, some r) := by
  have e : (cl x.length : Int) = x.length := cl_of (by omega) (by omega)
  simp only [stBytes, row, List.append_assoc, stNum_num, stRaw]
  rw [if_neg (by rw [e]; simp only [List.length_append]; omega), e]
  simp

end Go.Proofs.Ytlknlpiiogmfbaa.O
