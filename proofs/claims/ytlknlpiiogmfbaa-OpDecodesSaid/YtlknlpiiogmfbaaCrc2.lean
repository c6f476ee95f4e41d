/- The check sum tells one byte from another. -/
import Derived.Test.YtlknlpiiogmfbaaCrc
namespace Go.Proofs.Ytlknlpiiogmfbaa.O
open Go.RowKit H

theorem shift_top (v : BitVec 32) : (v >>> 1).getLsbD 31 = false := by
  rw [BitVec.getLsbD_ushiftRight]
  exact BitVec.getLsbD_of_ge v 32 (Nat.le_refl _)
theorem st_top (v : BitVec 32) : (st v).getLsbD 31 = v.getLsbD 0 := by
  unfold st
  by_cases h : v.getLsbD 0 = true
  · rw [if_pos h, BitVec.getLsbD_xor, shift_top, h]
    decide
  · rw [if_neg h, shift_top]
    simpa using h
theorem st_inj {a b : BitVec 32} (h : st a = st b) : a = b := by
  have h0 : a.getLsbD 0 = b.getLsbD 0 := by rw [← st_top, ← st_top, h]
  have h1 : a >>> 1 = b >>> 1 := by
    unfold st at h
    rw [← h0] at h
    by_cases ha : a.getLsbD 0 = true
    · rw [if_pos ha, if_pos ha] at h
      exact (BitVec.xor_left_inj _).1 h
    · rw [if_neg ha, if_neg ha] at h
      exact h
  apply BitVec.eq_of_getLsbD_eq
  intro i hi
  cases i with
  | zero => exact h0
  | succ i =>
    have := congrArg (fun v => BitVec.getLsbD v i) h1
    simp only [BitVec.getLsbD_ushiftRight] at this
    rwa [Nat.add_comm] at this
theorem sts_inj : ∀ (n : Nat) {a b : BitVec 32}, sts n a = sts n b → a = b
  | 0, _, _, h => h
  | n + 1, _, _, h => sts_inj n (st_inj h)
theorem crcB_inj {a b : BitVec 32} {c : Int} (h : crcB a c = crcB b c) : a = b := by
  have := sts_inj 8 h
  rw [BitVec.xor_comm a, BitVec.xor_comm b] at this
  exact (BitVec.xor_right_inj _).1 this
theorem crcB_byte {v : BitVec 32} {c d : Int} (hc : 0 ≤ c ∧ c < 256) (hd : 0 ≤ d ∧ d < 256) (h : crcB v c = crcB v d) : c = d := by
  have h1 := (BitVec.xor_right_inj _).1 (sts_inj 8 h)
  rw [← byte_bv c hc.1 hc.2, ← byte_bv d hd.1 hd.2, h1]
theorem crcF_inj : ∀ (xs : List Int) {a b : BitVec 32}, crcF a xs = crcF b xs → a = b
  | [], _, _, h => h
  | _ :: xs, _, _, h => crcB_inj (crcF_inj xs h)
theorem crcF_app (v : BitVec 32) (xs ys : List Int) : crcF v (xs ++ ys) = crcF (crcF v xs) ys := by simp [crcF]
theorem crc_eq {xs ys : List Int} (h : crc xs = crc ys) : crcF 4294967295#32 xs = crcF 4294967295#32 ys := by
  unfold crc at h
  have h1 := BitVec.eq_of_toNat_eq (Int.ofNat.inj h)
  have h2 := congrArg (fun v => ~~~ v) h1
  simpa using h2
theorem crc_set {xs : List Int} {k : Nat} {z : Int} (hk : k < xs.length) (hx : 0 ≤ xs[k] ∧ xs[k] < 256) (hz : 0 ≤ z ∧ z < 256) (hne : z ≠ xs[k]) : crc (xs.set k z) ≠ crc xs := by
  intro h
  have h1 := crc_eq h
  have e1 : xs.set k z = xs.take k ++ z :: xs.drop (k + 1) := List.set_eq_take_append_cons_drop ▸ (by rw [if_pos hk])
  have e2 : xs = xs.take k ++ xs[k] :: xs.drop (k + 1) := by rw [List.getElem_cons_drop, List.take_append_drop]
  have e3 : crcF 4294967295#32 xs = crcF 4294967295#32 (xs.take k ++ xs[k] :: xs.drop (k + 1)) := congrArg _ e2
  rw [e1, e3, crcF_app, crcF_app] at h1
  exact hne (crcB_byte hz hx (crcF_inj (xs.drop (k + 1)) h1))
theorem xor_u8 (y b : Int) (hy : 0 ≤ y ∧ y < 256) (hb : 0 ≤ b ∧ b < 256) (h0 : b ≠ 0) : (0 ≤ bits .xor .u8 y b ∧ bits .xor .u8 y b < 256) ∧ bits .xor .u8 y b ≠ y := by
  have e : bits .xor .u8 y b = ((BitVec.ofInt 8 y ^^^ BitVec.ofInt 8 b).toNat : Int) := by
    show IntKind.u8.wrap (((BitVec.ofInt 8 y ^^^ BitVec.ofInt 8 b).toNat : Nat) : Int) = _
    have := (BitVec.ofInt 8 y ^^^ BitVec.ofInt 8 b).isLt
    rw [IntKind.wrap_u8]
    omega
  have hlt := (BitVec.ofInt 8 y ^^^ BitVec.ofInt 8 b).isLt
  rw [e]
  refine ⟨⟨by omega, by omega⟩, fun h => h0 ?_⟩
  have hyv : ((BitVec.ofInt 8 y).toNat : Int) = y := by rw [BitVec.toNat_ofInt]; omega
  have hbv : ((BitVec.ofInt 8 b).toNat : Int) = b := by rw [BitVec.toNat_ofInt]; omega
  have h1 : BitVec.ofInt 8 y ^^^ BitVec.ofInt 8 b = BitVec.ofInt 8 y ^^^ 0#8 := by
    rw [BitVec.xor_zero]
    apply BitVec.eq_of_toNat_eq
    omega
  have h2 := (BitVec.xor_right_inj _).1 h1
  rw [← hbv, h2]
  rfl

end Go.Proofs.Ytlknlpiiogmfbaa.O
