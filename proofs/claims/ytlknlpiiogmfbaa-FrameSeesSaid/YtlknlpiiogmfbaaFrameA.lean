/- frame: four, fromFour; bytes.Equal. -/
import Derived.Test.YtlknlpiiogmfbaaFrameP
import Derived.Test.YtlknlpiiogmfbaaJoin
import Derived.Laws.BytesArg
import Derived.Deep.RegionHeld3
namespace Go.Proofs.Ytlknlpiiogmfbaa.frame
open Go.RowKit H O

theorem four_any (v : Int) (w : World) (h0 : 0 ≤ v) (h1 : v < 4294967296) : Calls Try.prog 48 #[.int .u32 v] w fun e w' => e = .returned (.slice (some ⟨w.heap.size, 0, none⟩) 4 4) ∧ w' = w.alloc (.cells (iv .u8 (four v)).toArray 5) := by
  go_enter Try.func48, Try.ntmps48
  go_wp2
  go_ret
  have e : v / 16777216 % 256 = v / 16777216 := by omega
  refine ⟨rfl, ?_⟩
  show _ = w.alloc (.cells #[.int .u8 (v % 256), .int .u8 (v / 256 % 256), .int .u8 (v / 65536 % 256), .int .u8 (v / 16777216 % 256)] 5)
  rw [e]
theorem byte_map_inj : ∀ {xs ys : List Int}, Wf xs → Wf ys → (xs.map fun n => UInt8.ofNat n.toNat) = (ys.map fun n => UInt8.ofNat n.toNat) → xs = ys
  | [], [], _, _, _ => rfl
  | [], _ :: _, _, _, h => by simp at h
  | _ :: _, [], _, _, h => by simp at h
  | x :: xs, y :: ys, h0, h1, h => by
    simp only [List.map_cons, List.cons.injEq] at h
    have hx := h0 x (by simp)
    have hy := h1 y (by simp)
    have h2 := congrArg UInt8.toNat h.1
    simp only [UInt8.toNat_ofNat'] at h2
    have e : x = y := by omega
    rw [e, byte_map_inj (fun z hz => h0 z (by simp [hz])) (fun z hz => h1 z (by simp [hz])) h.2]
theorem bits_or_u32_nat (a b : Nat) (ha : a < 4294967296) (hb : b < 4294967296) : bits .or .u32 (a : Int) (b : Int) = ((a ||| b : Nat) : Int) := by
  have hx : a ||| b < 2 ^ 32 := Nat.or_lt_two_pow (by omega) (by omega)
  have h1 : (BitVec.ofInt 32 (a : Int)).toNat = a := by
    rw [BitVec.ofInt_natCast, BitVec.toNat_ofNat]; exact Nat.mod_eq_of_lt (by omega)
  have h2 : (BitVec.ofInt 32 (b : Int)).toNat = b := by
    rw [BitVec.ofInt_natCast, BitVec.toNat_ofNat]; exact Nat.mod_eq_of_lt (by omega)
  show IntKind.u32.wrap ((BitVec.ofInt 32 (a : Int) ||| BitVec.ofInt 32 (b : Int)).toNat : Int) = _
  rw [BitVec.toNat_or, h1, h2, IntKind.wrap_u32]
  omega
theorem or_sum (x y : Int) (i : Nat) (p : Nat) (hp : p = 2 ^ i) (hx : 0 ≤ x ∧ x < p) (hy : 0 ≤ y) (hb : y * p + x < 4294967296) : bits .or .u32 x (y * p) = y * p + x := by
  obtain ⟨x, rfl⟩ := Int.eq_ofNat_of_zero_le hx.1
  obtain ⟨y, rfl⟩ := Int.eq_ofNat_of_zero_le hy
  have h := Nat.two_pow_add_eq_or_of_lt (i := i) (b := x) (by omega) y
  rw [← hp, Nat.mul_comm p y] at h
  have hb' : y * p + x < 4294967296 := by
    refine Int.ofNat_lt.1 ?_
    rw [Int.natCast_add, Int.natCast_mul]
    exact hb
  have e : ((y : Int) * (p : Int)) = ((y * p : Nat) : Int) := (Int.natCast_mul y p).symm
  rw [e, bits_or_u32_nat x (y * p) (by omega) (by omega), Nat.or_comm, ← h, Int.natCast_add]
theorem from_val (x0 x1 x2 x3 : Int) (h0 : 0 ≤ x0 ∧ x0 < 256) (h1 : 0 ≤ x1 ∧ x1 < 256) (h2 : 0 ≤ x2 ∧ x2 < 256) (h3 : 0 ≤ x3 ∧ x3 < 256) :
    bits BinOp.or IntKind.u32 (bits BinOp.or IntKind.u32 (bits BinOp.or IntKind.u32 (IntKind.u32.wrap x0) (IntKind.u32.wrap (IntKind.u32.wrap x1 * 256))) (IntKind.u32.wrap (IntKind.u32.wrap x2 * 65536))) (IntKind.u32.wrap (IntKind.u32.wrap x3 * 16777216))
      = x0 + x1 * 256 + x2 * 65536 + x3 * 16777216 := by
  have e0 : IntKind.u32.wrap x0 = x0 := by rw [IntKind.wrap_u32]; omega
  have e1 : IntKind.u32.wrap x1 = x1 := by rw [IntKind.wrap_u32]; omega
  have e2 : IntKind.u32.wrap x2 = x2 := by rw [IntKind.wrap_u32]; omega
  have e3 : IntKind.u32.wrap x3 = x3 := by rw [IntKind.wrap_u32]; omega
  have f1 : IntKind.u32.wrap (x1 * 256) = x1 * 256 := by rw [IntKind.wrap_u32]; omega
  have f2 : IntKind.u32.wrap (x2 * 65536) = x2 * 65536 := by rw [IntKind.wrap_u32]; omega
  have f3 : IntKind.u32.wrap (x3 * 16777216) = x3 * 16777216 := by rw [IntKind.wrap_u32]; omega
  rw [e0, e1, e2, e3, f1, f2, f3]
  have g1 := or_sum x0 x1 8 256 rfl (by omega) h1.1 (by omega)
  rw [show ((256 : Nat) : Int) = 256 from rfl] at g1
  have g2 := or_sum (x1 * 256 + x0) x2 16 65536 rfl (by omega) h2.1 (by omega)
  rw [show ((65536 : Nat) : Int) = 65536 from rfl] at g2
  have g3 := or_sum (x2 * 65536 + (x1 * 256 + x0)) x3 24 16777216 rfl (by omega) h3.1 (by omega)
  rw [show ((16777216 : Nat) : Int) = 16777216 from rfl] at g3
  rw [g1, g2, g3]
  omega
set_option maxHeartbeats 4000000 in
theorem from_any (A : Option Addr) (n c : Nat) (xs : List Int) (w : World) (hn : xs.length = n) (h0 : Rd w A (iv .u8 xs)) (hw : Wf xs) (h4 : 4 ≤ n) : Calls Try.prog 50 #[.slice A n c] w fun e w' => e = .returned (.int .u32 (unf xs)) ∧ ∃ k, w' = w.drewN k := by
  obtain ⟨a, rfl, d0⟩ := h0.int 0 (by omega)
  obtain ⟨_, e, d1⟩ := h0.int 1 (by omega)
  cases e
  obtain ⟨_, e, d2⟩ := h0.int 2 (by omega)
  cases e
  obtain ⟨_, e, d3⟩ := h0.int 3 (by omega)
  cases e
  obtain ⟨x0, h0'⟩ : ∃ x, xs[0] = x := ⟨_, rfl⟩
  obtain ⟨x1, h1'⟩ : ∃ x, xs[1] = x := ⟨_, rfl⟩
  obtain ⟨x2, h2'⟩ : ∃ x, xs[2] = x := ⟨_, rfl⟩
  obtain ⟨x3, h3'⟩ : ∃ x, xs[3] = x := ⟨_, rfl⟩
  rw [h0'] at d0
  rw [h1'] at d1
  rw [h2'] at d2
  rw [h3'] at d3
  have k0 : 0 < n := by omega
  have k1 : (1 : Int) < (n : Int) := by omega
  have k2 : (2 : Int) < (n : Int) := by omega
  have k3 : (3 : Int) < (n : Int) := by omega
  obtain ⟨b, o, s⟩ := a
  obtain rfl : s = none := by simpa [Addr.add] using World.cell?_spot d0
  rw [Go.WideShapes.add_plain] at d0 d1 d2 d3
  rw [Nat.add_zero] at d0
  have HV := As.mk (from_val x0 x1 x2 x3 (by rw [← h0']; exact hw _ (List.getElem_mem _)) (by rw [← h1']; exact hw _ (List.getElem_mem _)) (by rw [← h2']; exact hw _ (List.getElem_mem _)) (by rw [← h3']; exact hw _ (List.getElem_mem _)))
  have HU : As (unf xs = x0 + x1 * 256 + x2 * 65536 + x3 * 16777216) := ⟨by
    rw [← h0', ← h1', ← h2', ← h3', unf]
    simp only [List.getD_eq_getElem?_getD]
    rw [List.getElem?_eq_getElem (by omega), List.getElem?_eq_getElem (by omega), List.getElem?_eq_getElem (by omega), List.getElem?_eq_getElem (by omega)]
    rfl⟩
  clear h0 hn h0' h1' h2' h3' hw
  go_enter Try.func50, Try.ntmps50
  go_wp2
  go_region_held3 (fun w' => w'.cell? ⟨b, o, none⟩ = some (.int .u8 x0) ∧ w'.cell? ⟨b, o + 1, none⟩ = some (.int .u8 x1) ∧ w'.cell? ⟨b, o + 2, none⟩ = some (.int .u8 x2) ∧ w'.cell? ⟨b, o + 3, none⟩ = some (.int .u8 x3)) (exact ⟨d0, d1, d2, d3⟩) (fail)
  go_wp2
  go_ret
  rw [HU.out, ← HV.out]
  exact ⟨rfl, 1, rfl⟩
theorem equal_any (A0 A1 : Option Addr) (n0 c0 n1 c1 : Nat) (xs ys : List Int) (w : World) (l0 : xs.length = n0) (l1 : ys.length = n1) (h0 : Rd w A0 (iv .u8 xs)) (h1 : Rd w A1 (iv .u8 ys)) (w0 : Wf xs) (w1 : Wf ys) :
    Calls Try.prog 51 #[.slice A0 n0 c0, .slice A1 n1 c1] w fun e w' => e = .returned (.bool (decide (xs = ys))) ∧ w' = w := by
  have hcv : ∀ (A : Option Addr) (n c : Nat) (zs : List Int), zs.length = n → Rd w A (iv .u8 zs) → (convert 22 9 (.slice A n c)).run Try.prog w = .ok (.string (strOfNums zs)) w := by
    intro A n c zs hz hr
    by_cases hn : 0 < n
    · obtain ⟨a, rfl, d0⟩ := hr.int 0 (by omega)
      obtain ⟨b, o, s⟩ := a
      obtain rfl : s = none := by simpa [Addr.add] using World.cell?_spot d0
      refine run_convert_bytes_arg w 22 5 Try.underlying22 Try.underlying5 b o n c zs hz ?_ 9 Try.underlying9
      intro i hi
      obtain ⟨_, e, d⟩ := hr.int i (by omega)
      cases e
      rw [Go.WideShapes.add_plain] at d
      rw [d]
      simp [List.getD, show i < zs.length by omega]
    · obtain rfl : n = 0 := by omega
      obtain rfl : zs = [] := List.eq_nil_of_length_eq_zero hz
      rw [run_convert_bytes_string w 22 9 5 _ 0 c Try.underlying22 Try.underlying5 Try.underlying9]
      cases A <;> rfl
  have k0 := hcv A0 n0 c0 xs l0 h0
  have k1 := hcv A1 n1 c1 ys l1 h1
  clear hcv
  go_enter Try.func51, Try.ntmps51
  go_wp2
  go_ret
  refine ⟨?_, rfl⟩
  have hxy : ((strOfNums xs).toList == (strOfNums ys).toList) = decide (xs = ys) := by
    rw [ByteArray.toList_eq, ByteArray.toList_eq, strOfNums_data, strOfNums_data, Bool.eq_iff_iff, beq_iff_eq, decide_eq_true_eq]
    constructor
    · exact byte_map_inj w0 w1
    · rintro rfl; rfl
  rw [← hxy]
  rfl
end Go.Proofs.Ytlknlpiiogmfbaa.frame
