/- Records: plain words. -/
import Derived.Test.YtlknlpiiogmfbaaCrc2
namespace Go.Proofs.Ytlknlpiiogmfbaa.O
open Go.RowKit H

/-- a number in four bytes -/
def four (n : Int) : List Int := [n % 256, n / 256 % 256, n / 65536 % 256, n / 16777216 % 256]
def unf (l : List Int) : Int := l.getD 0 0 + l.getD 1 0 * 256 + l.getD 2 0 * 65536 + l.getD 3 0 * 16777216
theorem four_len (n : Int) : (four n).length = 4 := rfl
theorem four_wf (n : Int) : Wf (four n) := by
  intro x hx
  simp only [four, List.mem_cons, List.not_mem_nil, or_false] at hx
  omega
theorem unf_four {n : Int} (h0 : 0 ≤ n) (h1 : n < 4294967296) : unf (four n) = n := by
  simp only [four, unf, List.getD_cons_zero, List.getD_cons_succ]
  omega
theorem four_unf {l : List Int} (hl : l.length = 4) (hw : Wf l) : four (unf l) = l := by
  match l, hl with
  | [a, b, c, d], _ =>
    have ha := hw a (by simp)
    have hb := hw b (by simp)
    have hc := hw c (by simp)
    have hd := hw d (by simp)
    simp only [four, unf, List.getD_cons_zero, List.getD_cons_succ, List.cons.injEq, and_true]
    omega
theorem unf_le {l : List Int} (hw : Wf l) : 0 ≤ unf l ∧ unf l < 4294967296 := by
  have h : ∀ i, 0 ≤ l.getD i 0 ∧ l.getD i 0 < 256 := by
    intro i
    rw [List.getD_eq_getElem?_getD]
    by_cases hi : i < l.length
    · rw [List.getElem?_eq_getElem hi]; exact hw _ (List.getElem_mem hi)
    · rw [List.getElem?_eq_none (by omega)]; simp
  have h0 := h 0
  have h1 := h 1
  have h2 := h 2
  have h3 := h 3
  unfold unf
  omega
theorem crc_le (l : List Int) : 0 ≤ crc l ∧ crc l < 4294967296 := by
  unfold crc
  have := (~~~ (crcF 4294967295#32 l)).isLt
  omega
theorem unf_take {l : List Int} {k : Nat} (h : 4 ≤ k) : unf (l.take k) = unf l := by
  have : ∀ i, i < 4 → (l.take k).getD i 0 = l.getD i 0 := by
    intro i hi
    rw [List.getD_eq_getElem?_getD, List.getD_eq_getElem?_getD, List.getElem?_take_of_lt (by omega)]
  unfold unf
  rw [this 0 (by omega), this 1 (by omega), this 2 (by omega), this 3 (by omega)]
theorem unf_app {l r : List Int} (h : 4 ≤ l.length) : unf (l ++ r) = unf l := by
  rw [← unf_take (l := l ++ r) (k := l.length) h, List.take_left']
  rfl

/-- the head of a record -/
def head (n : Int) : List Int := four n ++ four (crc (four n))
theorem head_len (n : Int) : (head n).length = 8 := rfl
theorem head_wf (n : Int) : Wf (head n) := by
  intro x hx
  rcases List.mem_append.1 hx with h | h
  · exact four_wf _ x h
  · exact four_wf _ x h
theorem wf_app {a b : List Int} (h1 : Wf a) (h2 : Wf b) : Wf (a ++ b) := fun x hx => by
  rcases List.mem_append.1 hx with h | h
  · exact h1 x h
  · exact h2 x h
/-- a record -/
def fEnc (p : List Int) : List Int := (head p.length ++ p) ++ four (crc (head p.length ++ p))
theorem fEnc_len (p : List Int) : (fEnc p).length = p.length + 12 := by
  simp only [fEnc, List.length_append, head_len, four_len]
  omega
theorem fEnc_wf {p : List Int} (h : Wf p) : Wf (fEnc p) := wf_app (wf_app (head_wf _) h) (four_wf _)
/-- what bytes begin with -/
def fDec (b : List Int) : List Int × Nat × Int :=
  if b.length < 8 then ([], 0, 2)
  else if b.take 8 ≠ head (unf b) then ([], 0, 4)
  else if 1048576 < unf b then ([], 0, 5)
  else if (b.length : Int) - 12 < unf b then ([], 0, 2)
  else if unf (b.drop (8 + (unf b).toNat)) ≠ crc (b.take (8 + (unf b).toNat)) then ([], 0, 4)
  else ((b.take (8 + (unf b).toNat)).drop 8, 12 + (unf b).toNat, 0)

theorem unf_head {n : Int} (h0 : 0 ≤ n) (h1 : n < 4294967296) (r : List Int) : unf (head n ++ r) = n := by
  rw [unf_app (by rw [head_len]; omega), head, unf_app (by rw [four_len]; omega), unf_four h0 h1]
/-- A record, read. -/
theorem fDec_enc {p : List Int} (r : List Int) (hp : p.length ≤ 1048576) : fDec (fEnc p ++ r) = (p, p.length + 12, 0) := by
  have hu : unf (fEnc p ++ r) = p.length := by
    rw [fEnc, List.append_assoc, List.append_assoc]
    exact unf_head (by omega) (by omega) _
  have hl : (fEnc p ++ r).length = p.length + 12 + r.length := by rw [List.length_append, fEnc_len]
  have h8 : (fEnc p ++ r).take 8 = head p.length := by
    rw [fEnc, List.append_assoc, List.append_assoc, List.take_left' (head_len _)]
  have ht : (fEnc p ++ r).take (8 + p.length) = head p.length ++ p := by
    rw [fEnc, List.append_assoc, List.take_left' (by rw [List.length_append, head_len])]
  have hd : (fEnc p ++ r).drop (8 + p.length) = four (crc (head p.length ++ p)) ++ r := by
    rw [fEnc, List.append_assoc, List.drop_left' (by rw [List.length_append, head_len])]
  unfold fDec
  rw [hu, hl, h8, if_neg (by omega), if_neg (by simp), if_neg (by omega), if_neg (by omega), Int.toNat_natCast, ht, hd, unf_app (by rw [four_len]; omega),
    unf_four (crc_le _).1 (crc_le _).2, if_neg (by simp), List.drop_left' (head_len _), Nat.add_comm 12]
end Go.Proofs.Ytlknlpiiogmfbaa.O
