/- Records: plain words. -/
import Derived.Test.YtlknlpiiogmfbaaCrc2
import Derived.ChangeShapes
namespace Go.Proofs.Ytlknlpiiogmfbaa.O
open Go.RowKit H

/-- a number in four bytes -/
def four (n : Int) : List Int := [n % 256, n / 256 % 256, n / 65536 % 256, n / 16777216 % 256]
def unf (l : List Int) : Int := l.getD 0 0 + l.getD 1 0 * 256 + l.getD 2 0 * 65536 + l.getD 3 0 * 16777216
theorem four_len (n : Int) : (four n).length = 4 := rfl
theorem four_wf (n : Int) : Wf (four n) := by
  intro x hx
  simp only [four, List.mem_cons, List.not_mem_nil, or_false] at hx
  omega
theorem unf_four {n : Int} (h0 : 0 ≤ n) (h1 : n < 4294967296) : unf (four n) = n := by
  simp only [four, unf, List.getD_cons_zero, List.getD_cons_succ]
  omega
theorem four_unf {l : List Int} (hl : l.length = 4) (hw : Wf l) : four (unf l) = l := by
  match l, hl with
  | [a, b, c, d], _ =>
    have ha := hw a (by simp)
    have hb := hw b (by simp)
    have hc := hw c (by simp)
    have hd := hw d (by simp)
    simp only [four, unf, List.getD_cons_zero, List.getD_cons_succ, List.cons.injEq, and_true]
    omega
theorem unf_le {l : List Int} (hw : Wf l) : 0 ≤ unf l ∧ unf l < 4294967296 := by
  have h : ∀ i, 0 ≤ l.getD i 0 ∧ l.getD i 0 < 256 := by
    intro i
    rw [List.getD_eq_getElem?_getD]
    by_cases hi : i < l.length
    · rw [List.getElem?_eq_getElem hi]; exact hw _ (List.getElem_mem hi)
    · rw [List.getElem?_eq_none (by omega)]; simp
  have h0 := h 0
  have h1 := h 1
  have h2 := h 2
  have h3 := h 3
  unfold unf
  omega
theorem crc_le (l : List Int) : 0 ≤ crc l ∧ crc l < 4294967296 := by
  unfold crc
  have := (~~~ (crcF 4294967295#32 l)).isLt
  omega
theorem unf_take {l : List Int} {k : Nat} (h : 4 ≤ k) : unf (l.take k) = unf l := by
  have : ∀ i, i < 4 → (l.take k).getD i 0 = l.getD i 0 := by
    intro i hi
    rw [List.getD_eq_getElem?_getD, List.getD_eq_getElem?_getD, List.getElem?_take_of_lt (by omega)]
  unfold unf
  rw [this 0 (by omega), this 1 (by omega), this 2 (by omega), this 3 (by omega)]
theorem unf_app {l r : List Int} (h : 4 ≤ l.length) : unf (l ++ r) = unf l := by
  rw [← unf_take (l := l ++ r) (k := l.length) h, List.take_left']
  rfl

/-- the head of a record -/
def head (n : Int) : List Int := four n ++ four (crc (four n))
theorem head_len (n : Int) : (head n).length = 8 := rfl
theorem head_wf (n : Int) : Wf (head n) := by
  intro x hx
  rcases List.mem_append.1 hx with h | h
  · exact four_wf _ x h
  · exact four_wf _ x h
theorem wf_app {a b : List Int} (h1 : Wf a) (h2 : Wf b) : Wf (a ++ b) := fun x hx => by
  rcases List.mem_append.1 hx with h | h
  · exact h1 x h
  · exact h2 x h
/-- a record -/
def fEnc (p : List Int) : List Int := (head p.length ++ p) ++ four (crc (head p.length ++ p))
theorem fEnc_len (p : List Int) : (fEnc p).length = p.length + 12 := by
  simp only [fEnc, List.length_append, head_len, four_len]
  omega
theorem fEnc_wf {p : List Int} (h : Wf p) : Wf (fEnc p) := wf_app (wf_app (head_wf _) h) (four_wf _)
/-- what bytes begin with -/
def fDec (b : List Int) : List Int × Nat × Int :=
  if b.length < 8 then ([], 0, 2)
  else if b.take 8 ≠ head (unf b) then ([], 0, 4)
  else if 1048576 < unf b then ([], 0, 5)
  else if b.length < 12 + (unf b).toNat then ([], 0, 2)
  else if unf (b.drop (8 + (unf b).toNat)) ≠ crc (b.take (8 + (unf b).toNat)) then ([], 0, 4)
  else ((b.take (8 + (unf b).toNat)).drop 8, 12 + (unf b).toNat, 0)

theorem unf_head {n : Int} (h0 : 0 ≤ n) (h1 : n < 4294967296) (r : List Int) : unf (head n ++ r) = n := by
  rw [unf_app (by rw [head_len]; omega), head, unf_app (by rw [four_len]; omega), unf_four h0 h1]
/-- A record, read. -/
theorem fDec_enc {p : List Int} (r : List Int) (hp : p.length ≤ 1048576) : fDec (fEnc p ++ r) = (p, p.length + 12, 0) := by
  have hu : unf (fEnc p ++ r) = p.length := by
    rw [fEnc, List.append_assoc, List.append_assoc]
    exact unf_head (by omega) (by omega) _
  have hl : (fEnc p ++ r).length = p.length + 12 + r.length := by rw [List.length_append, fEnc_len]
  have h8 : (fEnc p ++ r).take 8 = head p.length := by
    rw [fEnc, List.append_assoc, List.append_assoc, List.take_left' (head_len _)]
  have ht : (fEnc p ++ r).take (8 + p.length) = head p.length ++ p := by
    rw [fEnc, List.append_assoc, List.take_left' (by rw [List.length_append, head_len])]
  have hd : (fEnc p ++ r).drop (8 + p.length) = four (crc (head p.length ++ p)) ++ r := by
    rw [fEnc, List.append_assoc, List.drop_left' (by rw [List.length_append, head_len])]
  unfold fDec
  rw [hu, hl, h8, Int.toNat_natCast, if_neg (by omega), if_neg (by simp), if_neg (by omega), if_neg (by omega), ht, hd, unf_app (by rw [four_len]; omega),
    unf_four (crc_le _).1 (crc_le _).2, if_neg (by simp), List.drop_left' (head_len _), Nat.add_comm 12]
theorem byte_map_inj : ∀ {xs ys : List Int}, Wf xs → Wf ys → (xs.map fun n => UInt8.ofNat n.toNat) = (ys.map fun n => UInt8.ofNat n.toNat) → xs = ys
  | [], [], _, _, _ => rfl
  | [], _ :: _, _, _, h => by simp at h
  | _ :: _, [], _, _, h => by simp at h
  | x :: xs, y :: ys, h0, h1, h => by
    simp only [List.map_cons, List.cons.injEq] at h
    have hx := h0 x (by simp)
    have hy := h1 y (by simp)
    have h2 := congrArg UInt8.toNat h.1
    simp only [UInt8.toNat_ofNat'] at h2
    have e : x = y := by omega
    rw [e, byte_map_inj (fun z hz => h0 z (by simp [hz])) (fun z hz => h1 z (by simp [hz])) h.2]
theorem bits_or_u32_nat (a b : Nat) (ha : a < 4294967296) (hb : b < 4294967296) : bits .or .u32 (a : Int) (b : Int) = ((a ||| b : Nat) : Int) := by
  have hx : a ||| b < 2 ^ 32 := Nat.or_lt_two_pow (by omega) (by omega)
  have h1 : (BitVec.ofInt 32 (a : Int)).toNat = a := by
    rw [BitVec.ofInt_natCast, BitVec.toNat_ofNat]; exact Nat.mod_eq_of_lt (by omega)
  have h2 : (BitVec.ofInt 32 (b : Int)).toNat = b := by
    rw [BitVec.ofInt_natCast, BitVec.toNat_ofNat]; exact Nat.mod_eq_of_lt (by omega)
  show IntKind.u32.wrap ((BitVec.ofInt 32 (a : Int) ||| BitVec.ofInt 32 (b : Int)).toNat : Int) = _
  rw [BitVec.toNat_or, h1, h2, IntKind.wrap_u32]
  omega
theorem or_sum (x y : Int) (i : Nat) (p : Nat) (hp : p = 2 ^ i) (hx : 0 ≤ x ∧ x < p) (hy : 0 ≤ y) (hb : y * p + x < 4294967296) : bits .or .u32 x (y * p) = y * p + x := by
  obtain ⟨x, rfl⟩ := Int.eq_ofNat_of_zero_le hx.1
  obtain ⟨y, rfl⟩ := Int.eq_ofNat_of_zero_le hy
  have h := Nat.two_pow_add_eq_or_of_lt (i := i) (b := x) (by omega) y
  rw [← hp, Nat.mul_comm p y] at h
  have hb' : y * p + x < 4294967296 := by
    refine Int.ofNat_lt.1 ?_
    rw [Int.natCast_add, Int.natCast_mul]
    exact hb
  have e : ((y : Int) * (p : Int)) = ((y * p : Nat) : Int) := (Int.natCast_mul y p).symm
  rw [e, bits_or_u32_nat x (y * p) (by omega) (by omega), Nat.or_comm, ← h, Int.natCast_add]
theorem from_val (x0 x1 x2 x3 : Int) (h0 : 0 ≤ x0 ∧ x0 < 256) (h1 : 0 ≤ x1 ∧ x1 < 256) (h2 : 0 ≤ x2 ∧ x2 < 256) (h3 : 0 ≤ x3 ∧ x3 < 256) :
    bits BinOp.or IntKind.u32 (bits BinOp.or IntKind.u32 (bits BinOp.or IntKind.u32 (IntKind.u32.wrap x0) (IntKind.u32.wrap (IntKind.u32.wrap x1 * 256))) (IntKind.u32.wrap (IntKind.u32.wrap x2 * 65536))) (IntKind.u32.wrap (IntKind.u32.wrap x3 * 16777216))
      = x0 + x1 * 256 + x2 * 65536 + x3 * 16777216 := by
  have e0 : IntKind.u32.wrap x0 = x0 := by rw [IntKind.wrap_u32]; omega
  have e1 : IntKind.u32.wrap x1 = x1 := by rw [IntKind.wrap_u32]; omega
  have e2 : IntKind.u32.wrap x2 = x2 := by rw [IntKind.wrap_u32]; omega
  have e3 : IntKind.u32.wrap x3 = x3 := by rw [IntKind.wrap_u32]; omega
  have f1 : IntKind.u32.wrap (x1 * 256) = x1 * 256 := by rw [IntKind.wrap_u32]; omega
  have f2 : IntKind.u32.wrap (x2 * 65536) = x2 * 65536 := by rw [IntKind.wrap_u32]; omega
  have f3 : IntKind.u32.wrap (x3 * 16777216) = x3 * 16777216 := by rw [IntKind.wrap_u32]; omega
  rw [e0, e1, e2, e3, f1, f2, f3]
  have g1 := or_sum x0 x1 8 256 rfl (by omega) h1.1 (by omega)
  rw [show ((256 : Nat) : Int) = 256 from rfl] at g1
  have g2 := or_sum (x1 * 256 + x0) x2 16 65536 rfl (by omega) h2.1 (by omega)
  rw [show ((65536 : Nat) : Int) = 65536 from rfl] at g2
  have g3 := or_sum (x2 * 65536 + (x1 * 256 + x0)) x3 24 16777216 rfl (by omega) h3.1 (by omega)
  rw [show ((16777216 : Nat) : Int) = 16777216 from rfl] at g3
  rw [g1, g2, g3]
  omega
end Go.Proofs.Ytlknlpiiogmfbaa.O
