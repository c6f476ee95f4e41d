/- A number in four bytes, and back: haystack/frame.four, haystack/frame.fromFour. -/
import Derived.Test.YtlknlpiiogmfbaaFrameP
import Derived.Test.YtlknlpiiogmfbaaProg
import Derived.Deep.RegionHeld3
namespace Go.Proofs.Ytlknlpiiogmfbaa.frame
open Go.RowKit H O

theorem four_any (v : Int) (w : World) (h0 : 0 ≤ v) (h1 : v < 4294967296) : Calls Try.prog 48 #[.int .u32 v] w fun e w' => e = .returned (.slice (some ⟨w.heap.size, 0, none⟩) 4 4) ∧ w' = w.alloc (.cells (iv .u8 (four v)).toArray 5) := by
  go_enter Try.func48, Try.ntmps48
  go_wp2
  go_ret
  have e : v / 16777216 % 256 = v / 16777216 := by omega
  refine ⟨rfl, ?_⟩
  show _ = w.alloc (.cells #[.int .u8 (v % 256), .int .u8 (v / 256 % 256), .int .u8 (v / 65536 % 256), .int .u8 (v / 16777216 % 256)] 5)
  rw [e]
set_option maxHeartbeats 4000000 in
theorem from_any (A : Option Addr) (n c : Nat) (xs : List Int) (w : World) (hn : xs.length = n) (h0 : Rd w A (iv .u8 xs)) (hw : Wf xs) (h4 : 4 ≤ n) : Calls Try.prog 50 #[.slice A n c] w fun e w' => e = .returned (.int .u32 (unf xs)) ∧ ∃ k, w' = w.drewN k := by
  obtain ⟨a, rfl, d0⟩ := h0.int 0 (by omega)
  obtain ⟨_, e, d1⟩ := h0.int 1 (by omega)
  cases e
  obtain ⟨_, e, d2⟩ := h0.int 2 (by omega)
  cases e
  obtain ⟨_, e, d3⟩ := h0.int 3 (by omega)
  cases e
  obtain ⟨x0, h0'⟩ : ∃ x, xs[0] = x := ⟨_, rfl⟩
  obtain ⟨x1, h1'⟩ : ∃ x, xs[1] = x := ⟨_, rfl⟩
  obtain ⟨x2, h2'⟩ : ∃ x, xs[2] = x := ⟨_, rfl⟩
  obtain ⟨x3, h3'⟩ : ∃ x, xs[3] = x := ⟨_, rfl⟩
  rw [h0'] at d0
  rw [h1'] at d1
  rw [h2'] at d2
  rw [h3'] at d3
  have k0 : 0 < n := by omega
  have k1 : (1 : Int) < (n : Int) := by omega
  have k2 : (2 : Int) < (n : Int) := by omega
  have k3 : (3 : Int) < (n : Int) := by omega
  obtain ⟨b, o, s⟩ := a
  obtain rfl : s = none := by simpa [Addr.add] using World.cell?_spot d0
  rw [Go.WideShapes.add_plain] at d0 d1 d2 d3
  rw [Nat.add_zero] at d0
  have HV := As.mk (from_val x0 x1 x2 x3 (by rw [← h0']; exact hw _ (List.getElem_mem _)) (by rw [← h1']; exact hw _ (List.getElem_mem _)) (by rw [← h2']; exact hw _ (List.getElem_mem _)) (by rw [← h3']; exact hw _ (List.getElem_mem _)))
  have HU : As (unf xs = x0 + x1 * 256 + x2 * 65536 + x3 * 16777216) := ⟨by
    rw [← h0', ← h1', ← h2', ← h3', unf]
    simp only [List.getD_eq_getElem?_getD]
    rw [List.getElem?_eq_getElem (by omega), List.getElem?_eq_getElem (by omega), List.getElem?_eq_getElem (by omega), List.getElem?_eq_getElem (by omega)]
    rfl⟩
  clear h0 hn h0' h1' h2' h3' hw
  go_enter Try.func50, Try.ntmps50
  go_wp2
  go_region_held3 (fun w' => w'.cell? ⟨b, o, none⟩ = some (.int .u8 x0) ∧ w'.cell? ⟨b, o + 1, none⟩ = some (.int .u8 x1) ∧ w'.cell? ⟨b, o + 2, none⟩ = some (.int .u8 x2) ∧ w'.cell? ⟨b, o + 3, none⟩ = some (.int .u8 x3)) (exact ⟨d0, d1, d2, d3⟩) (fail)
  go_wp2
  go_ret
  rw [HU.out, ← HV.out]
  exact ⟨rfl, 1, rfl⟩
end Go.Proofs.Ytlknlpiiogmfbaa.frame
