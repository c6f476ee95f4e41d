/- The check sum: the plain mathematics. -/
import Derived.Test.YtlknlpiiogmfbaaHeap
namespace Go.Proofs.Ytlknlpiiogmfbaa.O
open Go.RowKit

/-- One digit of the check sum. -/
def st (v : BitVec 32) : BitVec 32 := if v.getLsbD 0 then (v >>> 1) ^^^ 3988292384#32 else v >>> 1
def sts : Nat → BitVec 32 → BitVec 32
  | 0, v => v
  | n + 1, v => st (sts n v)
def crcB (v : BitVec 32) (c : Int) : BitVec 32 := sts 8 (v ^^^ BitVec.ofInt 32 c)
def crcF (v : BitVec 32) (xs : List Int) : BitVec 32 := xs.foldl crcB v
def crc (xs : List Int) : Int := ((~~~ (crcF 4294967295#32 xs)).toNat : Int)

theorem wrap_bv (v : BitVec 32) : IntKind.u32.wrap (v.toNat : Int) = (v.toNat : Int) := by
  rw [IntKind.wrap_u32]
  have := v.isLt
  omega
theorem of_bv (v : BitVec 32) : BitVec.ofInt 32 (v.toNat : Int) = v := by rw [BitVec.ofInt_natCast]; simp
theorem xor_bv (a b : BitVec 32) : bits .xor .u32 (a.toNat : Int) (b.toNat : Int) = ((a ^^^ b).toNat : Int) := by
  show IntKind.u32.wrap _ = _
  rw [← wrap_bv (a ^^^ b)]
  congr 2
  exact congrArg BitVec.toNat (by show BitVec.ofInt 32 _ ^^^ BitVec.ofInt 32 _ = _; rw [of_bv, of_bv])
theorem and_bv (a b : BitVec 32) : bits .and .u32 (a.toNat : Int) (b.toNat : Int) = ((a &&& b).toNat : Int) := by
  show IntKind.u32.wrap _ = _
  rw [← wrap_bv (a &&& b)]
  congr 2
  exact congrArg BitVec.toNat (by show BitVec.ofInt 32 _ &&& BitVec.ofInt 32 _ = _; rw [of_bv, of_bv])
theorem byte_bv (c : Int) (h0 : 0 ≤ c) (h1 : c < 256) : ((BitVec.ofInt 32 c).toNat : Int) = c := by
  rw [BitVec.toNat_ofInt]
  omega
theorem and_one (v : BitVec 32) : (v &&& 1#32).toNat = if v.getLsbD 0 then 1 else 0 := by
  rw [BitVec.toNat_and]
  show v.toNat &&& 1 = _
  rw [Nat.and_one_is_mod]
  simp only [BitVec.getLsbD, Nat.testBit_zero]
  by_cases h : v.toNat % 2 = 1 <;> simp [h] <;> omega
theorem half_bv (v : BitVec 32) : ((v >>> 1).toNat : Int) = (v.toNat : Int) / 2 := by
  rw [BitVec.toNat_ushiftRight, Nat.shiftRight_eq_div_pow]
  omega

theorem not_bv (u : BitVec 32) : bits .xor .u32 IntKind.u32.max (u.toNat : Int) = ((~~~ u).toNat : Int) := by
  have h := xor_bv 4294967295#32 u
  have e : 4294967295#32 ^^^ u = ~~~ u := BitVec.allOnes_xor
  rw [e] at h
  exact h

theorem st_walk (r : BitVec 32) : bits .xor .u32 ((r.toNat : Int) / 2) (bits .and .u32 3988292384 (-bits .and .u32 (r.toNat : Int) 1 % 4294967296)) = ((st r).toNat : Int) := by
  have h1 : bits .and .u32 (r.toNat : Int) 1 = (((r &&& 1#32).toNat : Nat) : Int) := and_bv r 1#32
  rw [h1, and_one, ← half_bv]
  unfold st
  by_cases h : r.getLsbD 0
  · rw [if_pos h, if_pos h]
    have e : bits .and .u32 3988292384 (-((1 : Nat) : Int) % 4294967296) = ((3988292384#32).toNat : Int) := by decide +kernel
    rw [e, xor_bv]
  · rw [if_neg h, if_neg h]
    have e : bits .and .u32 3988292384 (-((0 : Nat) : Int) % 4294967296) = ((0#32).toNat : Int) := by decide +kernel
    rw [e, xor_bv, BitVec.xor_zero]
/-- the document's step -/
theorem st_ref_one (r : BitVec 32) (h : r.getLsbD 0 = true) : bits .and .u32 (r.toNat : Int) 1 = 1 ∧ bits .xor .u32 ((r.toNat : Int) / 2) 3988292384 = ((st r).toNat : Int) := by
  have h1 : bits .and .u32 (r.toNat : Int) 1 = (((r &&& 1#32).toNat : Nat) : Int) := and_bv r 1#32
  refine ⟨by rw [h1, and_one, if_pos h]; rfl, ?_⟩
  have h2 := xor_bv (r >>> 1) 3988292384#32
  rw [half_bv] at h2
  rw [st, if_pos h]
  exact h2
theorem st_ref_zero (r : BitVec 32) (h : ¬ r.getLsbD 0 = true) : bits .and .u32 (r.toNat : Int) 1 = 0 ∧ (r.toNat : Int) / 2 = ((st r).toNat : Int) := by
  have h1 : bits .and .u32 (r.toNat : Int) 1 = (((r &&& 1#32).toNat : Nat) : Int) := and_bv r 1#32
  refine ⟨by rw [h1, and_one, if_neg h]; rfl, ?_⟩
  rw [st, if_neg h, half_bv]

end Go.Proofs.Ytlknlpiiogmfbaa.O
