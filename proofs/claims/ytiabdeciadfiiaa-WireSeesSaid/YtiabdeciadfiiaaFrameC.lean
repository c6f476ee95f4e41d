/- frame.Decode. -/
import Derived.Test.YtiabdeciadfiiaaFrameB
import Derived.Test.YtiabdeciadfiiaaBase
import Derived.Deep.RegionHeld3
namespace Go.Proofs.Ytiabdeciadfiiaa.frame
open Go.RowKit H O joins

/-- behind Decode -/
def FDec (xs : List Int) (w : World) (e : Ending) (w' : World) : Prop :=
  ∃ v, e = .returned (.tuple #[v, .int .i64 (((fDec xs).2.1 : Nat) : Int), .int .i64 (fDec xs).2.2]) ∧ Own 5 .u8 w' w.heap.size v (fDec xs).1 ∧ Kp [] w w'
theorem fdec_none {xs : List Int} {w w' : World} {z : Int} (h : fDec xs = ([], 0, z)) (k : Kp [] w w') : FDec xs w (.returned (.tuple #[.slice none 0 0, .int .i64 0, .int .i64 z])) w' := by
  refine ⟨_, by rw [h]; rfl, ?_, k⟩
  rw [h]
  exact Own.nil _ _ _ _

set_option maxHeartbeats 4000000 in
set_option maxRecDepth 100000 in
theorem dec_any (A : Option Addr) (n c : Nat) (xs : List Int) (w : World) (hn : xs.length = n) (hr : Rd w A (iv .u8 xs)) (hc : n ≤ c) (hw : Wf xs) (hm : n ≤ 140737488351232) :
    Calls Try.prog 90 #[.slice A n c] w (FDec xs w) := by
  by_cases h8 : n < 8
  · have HE : As (fDec xs = ([], 0, 2)) := ⟨by rw [fDec, if_pos (by omega)]⟩
    clear hr hw hn
    go_enter Try.func90, Try.ntmps90
    go_wp2
    go_ret3
    exact fdec_none HE.out (Kp.refl _ _)
  · obtain ⟨a, rfl, d9⟩ := hr.int 0 (by omega)
    obtain ⟨b0, o0, sp⟩ := a
    obtain rfl : sp = none := by simpa [Addr.add] using World.cell?_spot d9
    clear d9
    obtain ⟨N, hN⟩ : ∃ N : Nat, (unf xs) = (N : Int) := Int.eq_ofNat_of_zero_le (unf_le hw).1
    have hN32 := (unf_le hw).2
    rw [hN] at hN32
    have HF := As.mk (from_any (some ⟨b0, o0, none⟩) n c xs w hn hr hw (by omega))
    rw [hN] at HF
    have HHD : As (∀ wX, _) := ⟨fun wX => head_any (N : Int) wX (by omega) hN32⟩
    have hsl8 : ∀ W, (Instr.slice 26 (.slice (some ⟨b0, o0, none⟩) n c) none (some (.int .i64 8)) none).run Try.prog W = .ok (.slice (some ⟨b0, o0, none⟩) 8 c) W := slice_head ht8 hz8 (some ⟨b0, o0, none⟩) n c 8 (by omega) (by simp)
    have HEQ : As (∀ (A1 : Option Addr) (c1 : Nat) (wX : World), Kp [] w wX → Rd wX A1 (iv .u8 (head N)) → Calls Try.prog 68 #[.slice (some ⟨b0, o0, none⟩) 8 c, .slice A1 8 c1] wX fun e w' => e = .returned (.bool (decide (xs.take 8 = head N))) ∧ w' = wX) := ⟨fun A1 c1 wX k r1 => by
      refine equal_any (some ⟨b0, o0, none⟩) A1 8 c 8 c1 (xs.take 8) (head N) wX (by rw [List.length_take]; omega) (head_len _) ?_ r1 (hw.take 8) (head_wf _)
      have h := (k.rd_new hr (by simp)).take 8
      rwa [iv_take] at h⟩
    have hw32 : IntKind.u32.wrap (N : Int) = N := by rw [IntKind.wrap_u32]; omega
    have hw64 : IntKind.i64.wrap (N : Int) = N := by rw [IntKind.wrap_i64]; omega
    have HN32 := As.mk hN32
    clear hN32
    by_cases hh : xs.take 8 = head N
    · have hd1 : decide (xs.take 8 = head N) = true := decide_eq_true hh
      rw [hd1] at HEQ
      by_cases hbig : 1048576 < N
      · have HE : As (fDec xs = ([], 0, 5)) := ⟨by rw [fDec, if_neg (by omega), hN, if_neg (by simpa using hh), if_pos (by omega)]⟩
        clear hr hw hn hN hh hd1
        go_enter Try.func90, Try.ntmps90
        go_wp2_with (go_at_call 92; refine HF.out.mono ?_; rintro e w1 ⟨rfl, n1, hw1⟩; have HK1 : As (Kp [] w w1) := ⟨by rw [hw1]; exact (Kp.refl [] w).drewN _⟩; clear hw1 HF)
        go_region_held3 (fun w' => True) (exact trivial) (first
          | (go_at_call 68; refine (HEQ.out _ _ _ HK2.out HR2.out).mono ?_; rintro e w3 ⟨rfl, hw3⟩; have HK3 : As (Kp [] w w3) := ⟨by rw [hw3]; exact HK2.out⟩; clear hw3)
          | (go_at_call 87; refine (HHD.out _).mono ?_; rintro e w2 ⟨A2, c2, rfl, k2, r2, h2, h2', n2⟩; have HK2 : As (Kp [] w w2) := ⟨(HK1.out.drew).trans k2 (by simp)⟩; have HR2 := As.mk r2; clear k2 r2 n2))
        clear HHD HEQ
        go_wp2
        go_ret3
        exact fdec_none HE.out HK3.out
      · by_cases hsh : n < 12 + N
        · have HE : As (fDec xs = ([], 0, 2)) := ⟨by rw [fDec, if_neg (by omega), hN, if_neg (by simpa using hh), if_neg (by omega), if_pos (by omega)]⟩
          have hsh' : (n : Int) - 8 - 4 < (N : Int) := by omega
          clear hr hw hn hN hh hd1
          go_enter Try.func90, Try.ntmps90
          go_wp2_with (go_at_call 92; refine HF.out.mono ?_; rintro e w1 ⟨rfl, n1, hw1⟩; have HK1 : As (Kp [] w w1) := ⟨by rw [hw1]; exact (Kp.refl [] w).drewN _⟩; clear hw1 HF)
          go_region_held3 (fun w' => True) (exact trivial) (first
            | (go_at_call 68; refine (HEQ.out _ _ _ HK2.out HR2.out).mono ?_; rintro e w3 ⟨rfl, hw3⟩; have HK3 : As (Kp [] w w3) := ⟨by rw [hw3]; exact HK2.out⟩; clear hw3)
            | (go_at_call 87; refine (HHD.out _).mono ?_; rintro e w2 ⟨A2, c2, rfl, k2, r2, h2, h2', n2⟩; have HK2 : As (Kp [] w w2) := ⟨(HK1.out.drew).trans k2 (by simp)⟩; have HR2 := As.mk r2; clear k2 r2 n2))
          clear HHD HEQ
          go_wp2
          go_ret3
          exact fdec_none HE.out HK3.out
        · have hsh' : ¬ ((n : Int) - 8 - 4 < (N : Int)) := by omega
          obtain ⟨M, hM⟩ : ∃ M, M = 8 + N := ⟨_, rfl⟩
          have hMi : (8 : Int) + (N : Int) = (M : Int) := by omega
          have hslM : ∀ W, (Instr.slice 26 (.slice (some ⟨b0, o0, none⟩) n c) none (some (.int .i64 (M : Int))) none).run Try.prog W = .ok (.slice (some ⟨b0, o0, none⟩) M c) W := slice_head ht8 hz8 (some ⟨b0, o0, none⟩) n c M (by omega) (by simp)
          obtain ⟨a2, hsl2, hrd2⟩ := slice_tail ht8 hz8 ⟨b0, o0, none⟩ n c M (by omega) hc
          obtain ⟨n2, hn2⟩ : ∃ n2, n - M = n2 := ⟨_, rfl⟩
          obtain ⟨c2', hc2⟩ : ∃ c2, c - M = c2 := ⟨_, rfl⟩
          have hN3 : M - 8 = N := by omega
          rw [hn2, hc2] at hsl2
          obtain ⟨z1, hz1⟩ : ∃ z, unf (xs.drop M) = z := ⟨_, rfl⟩
          obtain ⟨z2, hz2⟩ : ∃ z, crc (xs.take M) = z := ⟨_, rfl⟩
          have HF2 : As (∀ wX, Kp [] w wX → Calls Try.prog 92 #[.slice (some a2) n2 c2'] wX fun e w' => e = .returned (.int .u32 z1) ∧ Kp [] w w') := ⟨fun wX k => by
            have h := hrd2 wX (iv .u8 xs) (by rw [iv_len, hn]) (k.rd_new hr (by simp))
            rw [iv_drop] at h
            refine (from_any (some a2) n2 c2' (xs.drop M) wX (by rw [List.length_drop]; omega) h (hw.drop M) (by omega)).mono ?_
            rintro e w' ⟨rfl, nk, rfl⟩
            exact ⟨by rw [hz1], k.drewN _⟩⟩
          have HTK : As (∀ wX, Kp [] w wX → Rd wX (some ⟨b0, o0, none⟩) (iv .u8 (xs.take M))) := ⟨fun wX k => by
            have h := (k.rd_new hr (by simp)).take M
            rwa [iv_take] at h⟩
          have hlM : (xs.take M).length = M := by rw [List.length_take]; omega
          have hwM := hw.take M
          have HSM : As (∀ wX, Kp [] w wX → Calls Try.prog 89 #[.slice (some ⟨wX.heap.size, 0, none⟩) 1 1] (wX.alloc (.cells #[.slice (some ⟨b0, o0, none⟩) M c] 26)) fun e w' => e = .returned (.int .u32 z2) ∧ Kp [] w w') := ⟨fun wX k => by
            refine (sum_one hlM (HTK.out wX k) (by omega) (by simp) hwM (by omega)).mono ?_
            rintro e w' ⟨rfl, rfl⟩
            exact ⟨by rw [hz2], k.alloc _⟩⟩
          have hcnt : 12 + N = M + 4 := by omega
          by_cases hz : z1 = z2
          · have HE : As (fDec xs = ((xs.take M).drop 8, M + 4, 0)) := ⟨by
              rw [fDec, if_neg (by omega), hN, if_neg (by simpa using hh), if_neg (by omega), if_neg (by omega), Int.toNat_natCast, ← hM, if_neg (by rw [hz1, hz2]; simpa using hz), hcnt]⟩
            have HCL : As (∀ wX, Kp [] w wX → Calls Try.prog 67 #[.slice (some ⟨b0, o0 + 8, none⟩) (M - 8) (c - 8)] wX (RetOwn 5 .u8 wX ((xs.take M).drop 8))) := ⟨fun wX k => by
              have h := (HTK.out wX k).drop 8
              rw [iv_drop, Go.WideShapes.add_plain] at h
              exact clone.clone_any (some ⟨b0, o0 + 8, none⟩) (M - 8) (c - 8) ((xs.take M).drop 8) wX (by rw [List.length_drop, hlM]) h (by simp) (by omega)⟩
            subst hz
            clear hr hw hn hN hh hd1 hrd2 hz1 hz2 hlM hwM HTK hM hn2 hc2 hN3 hcnt
            have h8c : (8 : Int) ≤ (M : Int) := by omega
            have h8d : (8 : Int) ≤ (c : Int) := by omega
            have h8e : ¬ c = 8 := by omega
            go_enter Try.func90, Try.ntmps90
            go_wp2_with (go_at_call 92; refine HF.out.mono ?_; rintro e w1 ⟨rfl, n1, hw1⟩; have HK1 : As (Kp [] w w1) := ⟨by rw [hw1]; exact (Kp.refl [] w).drewN _⟩; clear hw1 HF)
            go_region_held3 (fun w' => True) (exact trivial) (first
              | (go_at_call 68; refine (HEQ.out _ _ _ HK2.out HR2.out).mono ?_; rintro e w3 ⟨rfl, hw3⟩; have HK3 : As (Kp [] w w3) := ⟨by rw [hw3]; exact HK2.out⟩; clear hw3)
              | (go_at_call 87; refine (HHD.out _).mono ?_; rintro e w2 ⟨A2, c2, rfl, k2, r2, h2, h2', n2⟩; have HK2 : As (Kp [] w w2) := ⟨(HK1.out.drew).trans k2 (by simp)⟩; have HR2 := As.mk r2; clear k2 r2 n2))
            clear HHD HEQ
            go_wp2_with (first
              | (go_at_call 92; refine (HF2.out _ HK3.out).mono ?_; rintro e w4 ⟨rfl, k4⟩; have HK4 := As.mk k4; have HS4 := As.mk (HSM.out w4 k4); clear k4 HF2)
              | (go_at_call 89; refine HS4.out.mono ?_; rintro e w5 ⟨rfl, k5⟩; have HK5 := As.mk k5; have HC5 := As.mk (HCL.out w5 k5); clear k5 HS4)
              | (go_at_call 67; refine HC5.out.mono ?_; rintro e w6 ⟨v6, rfl, o6, k6⟩; have HO6 := As.mk (o6.lower HK5.out.size); have HK6 : As (Kp [] w w6) := ⟨HK5.out.trans k6 (by simp)⟩; clear k6 o6 HC5))
            go_ret3
            refine ⟨v6, by rw [HE.out]; rfl, ?_, HK6.out⟩
            rw [HE.out]
            exact HO6.out
          · have HE : As (fDec xs = ([], 0, 4)) := ⟨by
              rw [fDec, if_neg (by omega), hN, if_neg (by simpa using hh), if_neg (by omega), if_neg (by omega), Int.toNat_natCast, ← hM, if_pos (by rw [hz1, hz2]; exact hz)]⟩
            have hzb : (z1 != z2) = true := by simpa using hz
            clear hr hw hn hN hh hd1 hrd2 hz1 hz2 hlM hwM HTK hM hn2 hc2 hN3 hcnt hz
            go_enter Try.func90, Try.ntmps90
            go_wp2_with (go_at_call 92; refine HF.out.mono ?_; rintro e w1 ⟨rfl, n1, hw1⟩; have HK1 : As (Kp [] w w1) := ⟨by rw [hw1]; exact (Kp.refl [] w).drewN _⟩; clear hw1 HF)
            go_region_held3 (fun w' => True) (exact trivial) (first
              | (go_at_call 68; refine (HEQ.out _ _ _ HK2.out HR2.out).mono ?_; rintro e w3 ⟨rfl, hw3⟩; have HK3 : As (Kp [] w w3) := ⟨by rw [hw3]; exact HK2.out⟩; clear hw3)
              | (go_at_call 87; refine (HHD.out _).mono ?_; rintro e w2 ⟨A2, c2, rfl, k2, r2, h2, h2', n2⟩; have HK2 : As (Kp [] w w2) := ⟨(HK1.out.drew).trans k2 (by simp)⟩; have HR2 := As.mk r2; clear k2 r2 n2))
            clear HHD HEQ
            go_wp2_with (first
              | (go_at_call 92; refine (HF2.out _ HK3.out).mono ?_; rintro e w4 ⟨rfl, k4⟩; have HK4 := As.mk k4; have HS4 := As.mk (HSM.out w4 k4); clear k4 HF2)
              | (go_at_call 89; refine HS4.out.mono ?_; rintro e w5 ⟨rfl, k5⟩; have HK5 := As.mk k5; clear k5 HS4))
            go_ret3
            exact fdec_none HE.out HK5.out
    · have hd1 : decide (xs.take 8 = head N) = false := decide_eq_false hh
      rw [hd1] at HEQ
      have HE : As (fDec xs = ([], 0, 4)) := ⟨by rw [fDec, if_neg (by omega), hN, if_pos hh]⟩
      clear hr hw hn hN hh hd1
      go_enter Try.func90, Try.ntmps90
      go_wp2_with (go_at_call 92; refine HF.out.mono ?_; rintro e w1 ⟨rfl, n1, hw1⟩; have HK1 : As (Kp [] w w1) := ⟨by rw [hw1]; exact (Kp.refl [] w).drewN _⟩; clear hw1 HF)
      go_region_held3 (fun w' => True) (exact trivial) (first
        | (go_at_call 68; refine (HEQ.out _ _ _ HK2.out HR2.out).mono ?_; rintro e w3 ⟨rfl, hw3⟩; have HK3 : As (Kp [] w w3) := ⟨by rw [hw3]; exact HK2.out⟩; clear hw3)
        | (go_at_call 87; refine (HHD.out _).mono ?_; rintro e w2 ⟨A2, c2, rfl, k2, r2, h2, h2', n2⟩; have HK2 : As (Kp [] w w2) := ⟨(HK1.out.drew).trans k2 (by simp)⟩; have HR2 := As.mk r2; clear k2 r2 n2))
      clear HHD HEQ
      go_wp2
      go_ret3
      exact fdec_none HE.out HK3.out
end Go.Proofs.Ytiabdeciadfiiaa.frame
