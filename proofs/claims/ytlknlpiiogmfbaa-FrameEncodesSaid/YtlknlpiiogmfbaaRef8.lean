/- haystackref8: Encode, Decode, One. -/
import Derived.Test.YtlknlpiiogmfbaaFrameR
import Derived.Test.YtlknlpiiogmfbaaFrameS
import Derived.Test.YtlknlpiiogmfbaaFour1
namespace Go.Proofs.Ytlknlpiiogmfbaa.O
open Go.RowKit H
theorem head_iff {xs : List Int} (hw : Wf xs) (h8 : 8 ≤ xs.length) : xs.take 8 = head (unf xs) ↔ unf (xs.drop 4) = crc (xs.take 4) := by
  have hw4 := hw.take 4
  have e4 : four (unf xs) = xs.take 4 := by
    have h := four_unf (l := xs.take 4) (by rw [List.length_take]; omega) hw4
    rwa [unf_take (by omega)] at h
  have e8 : xs.take 8 = xs.take 4 ++ (xs.drop 4).take 4 := by
    rw [show (8 : Nat) = 4 + 4 from rfl, List.take_add]
  have hd : ((xs.drop 4).take 4).length = 4 := by rw [List.length_take, List.length_drop]; omega
  rw [head, e4, e8]
  constructor
  · intro h
    have h1 := List.append_cancel_left h
    have h2 := congrArg unf h1
    rwa [unf_take (by omega), unf_four (crc_le _).1 (crc_le _).2] at h2
  · intro h
    rw [← h]
    have h1 := four_unf hd ((hw.drop 4).take 4)
    rw [unf_take (by omega)] at h1
    rw [h1]
theorem fDec_err {b : List Int} (h : (fDec b).2.2 ≠ 0) : (fDec b).1 = [] := by
  rcases fDec_form b with h0 | h0
  · exact absurd h0 h
  · rw [h0]
end Go.Proofs.Ytlknlpiiogmfbaa.O
namespace Go.Proofs.Ytlknlpiiogmfbaa.ref8
open Go.RowKit H O joins frame

theorem four_acc {w wr : World} (k : Kp [] w wr) (v : Int) (h0 : 0 ≤ v) (h1 : v < 4294967296) : Calls Try.prog 53 #[.int .u32 v] wr fun e w' => ∃ A, e = .returned (.slice A 4 4) ∧ Acc w w' (.slice A 4 4) 4 (four v) ∧ Rd w' A (iv .u8 (four v)) ∧ Kp [] wr w' ∧ (A = none → 4 = 0) := by
  refine (ref1.four_any v wr h0 h1).mono ?_
  rintro e w' ⟨rfl, rfl⟩
  have ho := own_new wr (iv .u8 (four v)) 5 (by rw [iv_len, four_len]; decide)
  have hs := k.size
  exact ⟨_, rfl, ⟨ho, by intro g hg; simp [Value.ownBlock] at hg; omega, k.alloc _⟩, rd_new wr _ _, (Kp.refl [] wr).alloc _, by simp⟩

set_option maxHeartbeats 4000000 in
set_option maxRecDepth 100000 in
-- PART E
theorem enc_any (A : Option Addr) (n c : Nat) (p : List Int) (w : World) (hn : p.length = n) (hr : Rd w A (iv .u8 p)) (hnil : A = none → c = 0) (hw : Wf p) (hm : n ≤ 1000000) (N : Nat) (hN : N = n + 12) :
    Calls Try.prog 16 #[.slice A n c] w fun e w' => ∃ A1 c1, e = .returned (.tuple #[.slice A1 N c1, .int .i64 0]) ∧ Acc w w' (.slice A1 N c1) N (fEnc p) ∧ N ≤ c1 := by
  have HR := As.mk hr
  have HNL := As.mk hnil
  have HL := As.mk hn
  have hwT : IntKind.u32.wrap (n : Int) = n := by rw [IntKind.wrap_u32]; omega
  have hwT2 : (n : Int) % 4294967296 = n := by omega
  have HF1 := As.mk (four_acc (Kp.refl [] w) (n : Int) (by omega) (by omega))
  obtain ⟨s1, hs1⟩ : ∃ s, s = crc (four (n : Int)) := ⟨_, rfl⟩
  obtain ⟨b2, hb2⟩ : ∃ b, b = head (n : Int) ++ p := ⟨_, rfl⟩
  obtain ⟨s2, hs2⟩ : ∃ s, s = crc b2 := ⟨_, rfl⟩
  obtain ⟨M, hM⟩ : ∃ M, M = 8 + n := ⟨_, rfl⟩
  have HSB1 : As (0 ≤ s1 ∧ s1 < 4294967296) := ⟨by rw [hs1]; exact crc_le _⟩
  have HSB2 : As (0 ≤ s2 ∧ s2 < 4294967296) := ⟨by rw [hs2]; exact crc_le _⟩
  have HH : As (four (n : Int) ++ four s1 = head (n : Int)) := ⟨by rw [head, hs1]⟩
  have HB2 := As.mk hb2
  have HFE : As (b2 ++ four s2 = fEnc p) := ⟨by rw [fEnc, hn, ← hb2, hs2]⟩
  have HM := As.mk hM
  have HLB : As (b2.length = M) := ⟨by rw [hb2, List.length_append, head_len, hn, hM]⟩
  have HWB : As (Wf b2) := ⟨by rw [hb2]; exact wf_app (head_wf _) hw⟩
  have HNM : As (N = M + 4) := ⟨by omega⟩
  have HS1 := As.mk hs1
  have HS2 := As.mk hs2
  have hM9 : M ≤ 1000008 := by omega
  clear hr hn hnil hw hs1 hb2 hs2 hM hN
  go_enter Try.func16, Try.ntmps16
  go_wp2_with (first
    | (go_at_call 53; refine HF1.out.mono ?_; rintro e w1 ⟨A1, rfl, a1, r1, k1, n1⟩; have HA1 := As.mk a1; have HSM1 := As.mk (sum.ref_any A1 4 4 (four (n : Int)) w1 (four_len _) r1 (by decide) (four_wf _)); rw [← HS1.out] at HSM1; clear a1 r1 k1 n1 HF1)
    | (go_at_call 54; refine HSM1.out.mono ?_; rintro e w2 ⟨rfl, nk2, hw2⟩; have HA2 := As.mk (HA1.out.keep (w1 := w2) (by rw [hw2]; exact (Kp.refl [] w1).drewN _)); have HF2 := As.mk (four_acc HA2.out.kp s1 HSB1.out.1 HSB1.out.2); clear hw2 HSM1)
    | (go_at_call 53; refine HF2.out.mono ?_; rintro e w3 ⟨A3, rfl, -, r3, k3, n3⟩; have HA3 := As.mk (HA2.out.keep k3); have HR3 := As.mk r3; have HN3 := As.mk n3; clear r3 k3 n3 HF2)
    | (at_builtin; refine clone.app8 rfl (.tmp 17) (.tmp 18) rfl (.slice A4 8 c4) 8 (iv .u8 (head (n : Int))) rfl HA4.out.own A n c (iv .u8 p) rfl (by rw [iv_len, HL.out]) (HA4.out.kp.rd_new HR.out (by simp)) HNL.out (iv_one _ _) (by omega) ?_; intro v5 w5 o5 k5 a5; have h5 := HA4.out.more o5 k5 a5 HM.out; rw [← HB2.out] at h5; obtain ⟨A5, c5, rfl, hc5, _, r5, _⟩ := own_rd h5.own; have HA5 := As.mk h5; have HSM2 := As.mk (sum.ref_any A5 M c5 b2 w5 HLB.out r5 (by omega) HWB.out); rw [← HS2.out] at HSM2; clear o5 k5 a5 h5 r5)
    | (at_builtin; refine clone.app8 rfl (.tmp 12) (.tmp 15) rfl (.slice A1 4 4) 4 (iv .u8 (four (n : Int))) rfl HA3.out.own A3 4 4 (iv .u8 (four s1)) rfl (by rw [iv_len, four_len]) HR3.out HN3.out (iv_one _ _) (by decide) ?_; intro v4 w4 o4 k4 a4; have h4 := HA3.out.more o4 k4 a4 (rfl : 8 = 4 + 4); rw [HH.out] at h4; obtain ⟨A4, c4, rfl, _, _, _, _⟩ := own_rd h4.own; have HA4 := As.mk h4; clear o4 k4 a4 h4)
    | (go_at_call 54; refine HSM2.out.mono ?_; rintro e w6 ⟨rfl, nk6, hw6⟩; have HA6 := As.mk (HA5.out.keep (w1 := w6) (by rw [hw6]; exact (Kp.refl [] w5).drewN _)); have HF3 := As.mk (four_acc HA6.out.kp s2 HSB2.out.1 HSB2.out.2); clear hw6 HSM2)
    | (go_at_call 53; refine HF3.out.mono ?_; rintro e w7 ⟨A7, rfl, -, r7, k7, n7⟩; have HA7 := As.mk (HA6.out.keep k7); have HR7 := As.mk r7; have HN7 := As.mk n7; clear r7 k7 n7 HF3)
    | (at_builtin; refine clone.app8 rfl (.tmp 20) (.tmp 23) rfl (.slice A5 M c5) M (iv .u8 b2) rfl HA7.out.own A7 4 4 (iv .u8 (four s2)) rfl (by rw [iv_len, four_len]) HR7.out HN7.out (iv_one _ _) (by omega) ?_; intro v8 w8 o8 k8 a8; have h8 := HA7.out.more o8 k8 a8 HNM.out; rw [HFE.out] at h8; obtain ⟨A8, c8, rfl, hc8, _, _, _⟩ := own_rd h8.own; have HA8 := As.mk h8; clear o8 k8 a8 h8))
  go_ret2
  exact ⟨A8, c8, rfl, HA8.out, hc8⟩
-- END E

set_option maxHeartbeats 4000000 in
set_option maxRecDepth 100000 in
theorem dec_any (A : Option Addr) (n c : Nat) (xs : List Int) (w : World) (hn : xs.length = n) (hr : Rd w A (iv .u8 xs)) (hc : n ≤ c) (hw : Wf xs) (hm : n ≤ 70368744177664) :
    Calls Try.prog 22 #[.slice A n c] w (FDec xs w) := by
  by_cases h8 : n < 8
  · have HE : As (fDec xs = ([], 0, 2)) := ⟨by rw [fDec, if_pos (by omega)]⟩
    clear hr hw hn
    go_enter Try.func22, Try.ntmps22
    go_wp2
    go_ret3
    exact fdec_none HE.out (Kp.refl _ _)
  · obtain ⟨a, rfl, d9⟩ := hr.int 0 (by omega)
    obtain ⟨b0, o0, sp⟩ := a
    obtain rfl : sp = none := by simpa [Addr.add] using World.cell?_spot d9
    clear d9
    obtain ⟨N, hN⟩ : ∃ N : Nat, (unf xs) = (N : Int) := Int.eq_ofNat_of_zero_le (unf_le hw).1
    have hN32 := (unf_le hw).2
    rw [hN] at hN32
    have HN32 := As.mk hN32
    clear hN32
    have hsl4 : ∀ W, (Instr.slice 22 (.slice (some ⟨b0, o0, none⟩) n c) none (some (.int .i64 4)) none).run Try.prog W = .ok (.slice (some ⟨b0, o0, none⟩) 4 c) W := slice_head ht8 hz8 (some ⟨b0, o0, none⟩) n c 4 (by omega) (by simp)
    obtain ⟨a4, hsl4', hrd4⟩ := slice_tail ht8 hz8 ⟨b0, o0, none⟩ n c 4 (by omega) hc
    have hsl4'' : ∀ W, (Instr.slice 22 (.slice (some ⟨b0, o0, none⟩) n c) (some (.int .i64 4)) none none).run Try.prog W = .ok (.slice (some a4) (n - 4) (c - 4)) W := hsl4'
    clear hsl4'
    obtain ⟨n4, hn4⟩ : ∃ k, n - 4 = k := ⟨_, rfl⟩
    obtain ⟨c4, hc4⟩ : ∃ k, c - 4 = k := ⟨_, rfl⟩
    rw [hn4, hc4] at hsl4''
    have hw64 : IntKind.i64.wrap (N : Int) = N := by have := HN32.out; rw [IntKind.wrap_i64]; omega
    obtain ⟨y1, hy1⟩ : ∃ z, unf (xs.drop 4) = z := ⟨_, rfl⟩
    obtain ⟨y2, hy2⟩ : ∃ z, crc (xs.take 4) = z := ⟨_, rfl⟩
    have HFA : As (∀ wX, Kp [] w wX → Calls Try.prog 55 #[.slice (some a4) n4 c4] wX fun e w' => e = .returned (.int .u32 y1) ∧ Kp [] w w') := ⟨fun wX k => by
      have h := hrd4 wX (iv .u8 xs) (by rw [iv_len, hn]) (k.rd_new hr (by simp))
      rw [iv_drop] at h
      refine (ref1.from_any (some a4) n4 c4 (xs.drop 4) wX (by rw [List.length_drop]; omega) h (hw.drop 4) (by omega)).mono ?_
      rintro e w' ⟨rfl, nk, rfl⟩
      exact ⟨by rw [hy1], k.drewN _⟩⟩
    have HSA : As (∀ wX, Kp [] w wX → Calls Try.prog 54 #[.slice (some ⟨b0, o0, none⟩) 4 c] wX fun e w' => e = .returned (.int .u32 y2) ∧ Kp [] w w') := ⟨fun wX k => by
      have h := (k.rd_new hr (by simp)).take 4
      rw [iv_take] at h
      refine (sum.ref_any (some ⟨b0, o0, none⟩) 4 c (xs.take 4) wX (by rw [List.length_take]; omega) h (by decide) (hw.take 4)).mono ?_
      rintro e w' ⟨rfl, nk, rfl⟩
      exact ⟨by rw [hy2], k.drewN _⟩⟩
    have HFB : As (∀ wX, Kp [] w wX → Calls Try.prog 55 #[.slice (some ⟨b0, o0, none⟩) n c] wX fun e w' => e = .returned (.int .u32 (N : Int)) ∧ Kp [] w w') := ⟨fun wX k => by
      refine (ref1.from_any (some ⟨b0, o0, none⟩) n c xs wX hn (k.rd_new hr (by simp)) hw (by omega)).mono ?_
      rintro e w' ⟨rfl, nk, rfl⟩
      exact ⟨by rw [hN], k.drewN _⟩⟩
    by_cases hh : y1 = y2
    · have hh8 : xs.take 8 = head N := by rw [← hN]; exact (head_iff hw (by omega)).2 (by rw [hy1, hy2, hh])
      subst hh
      by_cases hbig : 1048576 < N
      · have HE : As (fDec xs = ([], 0, 5)) := ⟨by rw [fDec, if_neg (by omega), hN, if_neg (by simpa using hh8), if_pos (by omega)]⟩
        clear hr hw hn hN hh8 hrd4 hn4 hc4 hy1 hy2
        go_enter Try.func22, Try.ntmps22
        go_wp2
        go_region_held3 (fun w' => True) (exact trivial) (first
          | (go_at_call 55; refine (HFA.out w.drew (Kp.refl [] w).drew).mono ?_; rintro e w1 ⟨rfl, k1⟩; have HK1 := As.mk k1; clear k1)
          | (go_at_call 54; refine (HSA.out _ HK1.out).mono ?_; rintro e w2 ⟨rfl, k2⟩; have HK2 := As.mk k2; clear k2))
        have HFB1 := As.mk (HFB.out w2 HK2.out)
        clear HFA HSA HFB
        go_wp2_with (go_at_call 55; refine HFB1.out.mono ?_; rintro e w3 ⟨rfl, k3⟩; have HK3 := As.mk k3; clear k3 HFB1)
        go_ret3
        exact fdec_none HE.out HK3.out
      · by_cases hsh : n < 12 + N
        · have HE : As (fDec xs = ([], 0, 2)) := ⟨by rw [fDec, if_neg (by omega), hN, if_neg (by simpa using hh8), if_neg (by omega), if_pos (by omega)]⟩
          have hsh' : (n : Int) < 12 + (N : Int) := by omega
          clear hr hw hn hN hh8 hrd4 hn4 hc4 hy1 hy2
          go_enter Try.func22, Try.ntmps22
          go_wp2
          go_region_held3 (fun w' => True) (exact trivial) (first
            | (go_at_call 55; refine (HFA.out w.drew (Kp.refl [] w).drew).mono ?_; rintro e w1 ⟨rfl, k1⟩; have HK1 := As.mk k1; clear k1)
            | (go_at_call 54; refine (HSA.out _ HK1.out).mono ?_; rintro e w2 ⟨rfl, k2⟩; have HK2 := As.mk k2; clear k2))
          have HFB1 := As.mk (HFB.out w2 HK2.out)
          clear HFA HSA HFB
          go_wp2_with (go_at_call 55; refine HFB1.out.mono ?_; rintro e w3 ⟨rfl, k3⟩; have HK3 := As.mk k3; clear k3 HFB1)
          go_ret3
          exact fdec_none HE.out HK3.out
        · have hsh' : ¬ ((n : Int) < 12 + (N : Int)) := by omega
          obtain ⟨M, hM⟩ : ∃ M, M = 8 + N := ⟨_, rfl⟩
          have hMi : (8 : Int) + (N : Int) = (M : Int) := by omega
          have hslM : ∀ W, (Instr.slice 22 (.slice (some ⟨b0, o0, none⟩) n c) none (some (.int .i64 (M : Int))) none).run Try.prog W = .ok (.slice (some ⟨b0, o0, none⟩) M c) W := slice_head ht8 hz8 (some ⟨b0, o0, none⟩) n c M (by omega) (by simp)
          obtain ⟨a2, hsl2, hrd2⟩ := slice_tail ht8 hz8 ⟨b0, o0, none⟩ n c M (by omega) hc
          obtain ⟨n2, hn2⟩ : ∃ n2, n - M = n2 := ⟨_, rfl⟩
          obtain ⟨c2', hc2⟩ : ∃ c2, c - M = c2 := ⟨_, rfl⟩
          rw [hn2, hc2] at hsl2
          have hwM : IntKind.i64.wrap (8 + (N : Int)) = (M : Int) := by rw [IntKind.wrap_i64]; omega
          have hwM2 : IntKind.i64.wrap (M : Int) = (M : Int) := by rw [IntKind.wrap_i64]; omega
          obtain ⟨z1, hz1⟩ : ∃ z, unf (xs.drop M) = z := ⟨_, rfl⟩
          obtain ⟨z2, hz2⟩ : ∃ z, crc (xs.take M) = z := ⟨_, rfl⟩
          have HF2 : As (∀ wX, Kp [] w wX → Calls Try.prog 55 #[.slice (some a2) n2 c2'] wX fun e w' => e = .returned (.int .u32 z1) ∧ Kp [] w w') := ⟨fun wX k => by
            have h := hrd2 wX (iv .u8 xs) (by rw [iv_len, hn]) (k.rd_new hr (by simp))
            rw [iv_drop] at h
            refine (ref1.from_any (some a2) n2 c2' (xs.drop M) wX (by rw [List.length_drop]; omega) h (hw.drop M) (by omega)).mono ?_
            rintro e w' ⟨rfl, nk, rfl⟩
            exact ⟨by rw [hz1], k.drewN _⟩⟩
          have hlM : (xs.take M).length = M := by rw [List.length_take]; omega
          have HSM : As (∀ wX, Kp [] w wX → Calls Try.prog 54 #[.slice (some ⟨b0, o0, none⟩) M c] wX fun e w' => e = .returned (.int .u32 z2) ∧ Kp [] w w') := ⟨fun wX k => by
            have h := (k.rd_new hr (by simp)).take M
            rw [iv_take] at h
            refine (sum.ref_any (some ⟨b0, o0, none⟩) M c (xs.take M) wX hlM h (by omega) (hw.take M)).mono ?_
            rintro e w' ⟨rfl, nk, rfl⟩
            exact ⟨by rw [hz2], k.drewN _⟩⟩
          obtain ⟨K, hK⟩ : ∃ K, 12 + N = K := ⟨_, rfl⟩
          have hKi : (12 : Int) + (N : Int) = (K : Int) := by omega
          by_cases hz : z1 = z2
          · have HE : As (fDec xs = ((xs.take M).drop 8, K, 0)) := ⟨by
              rw [fDec, if_neg (by omega), hN, if_neg (by simpa using hh8), if_neg (by omega), if_neg (by omega), Int.toNat_natCast, ← hM, if_neg (by rw [hz1, hz2]; simpa using hz), hK]⟩
            have hslm : ∀ W, (Instr.slice 22 (.slice (some ⟨b0, o0, none⟩) n c) (some (.int .i64 8)) (some (.int .i64 (M : Int))) none).run Try.prog W = .ok (.slice (some ⟨b0, o0 + 8, none⟩) (M - 8) (c - 8)) W := slice_mid ht8 hz8 b0 o0 n c 8 M (by omega) (by omega) (by omega)
            rw [show M - 8 = N by omega] at hslm
            have HRX : As (∀ wX, Kp [] w wX → Rd wX (some ⟨b0, o0 + 8, none⟩) (iv .u8 ((xs.take M).drop 8))) := ⟨fun wX k => by
              have h := ((k.rd_new hr (by simp)).take M).drop 8
              rwa [iv_take, iv_drop, Go.WideShapes.add_plain] at h⟩
            have HLX : As (((xs.take M).drop 8).length = N) := ⟨by rw [List.length_drop, hlM]; omega⟩
            subst hz
            have hsh2 : ((n : Int) < (K : Int)) = False := by simp; omega
            clear hr hw hn hN hh8 hrd2 hrd4 hn4 hc4 hy1 hy2 hz1 hz2 hlM hM hn2 hc2 hK
            go_enter Try.func22, Try.ntmps22
            go_wp2
            go_region_held3 (fun w' => True) (exact trivial) (first
              | (go_at_call 55; refine (HFA.out w.drew (Kp.refl [] w).drew).mono ?_; rintro e w1 ⟨rfl, k1⟩; have HK1 := As.mk k1; clear k1)
              | (go_at_call 54; refine (HSA.out _ HK1.out).mono ?_; rintro e w2 ⟨rfl, k2⟩; have HK2 := As.mk k2; clear k2))
            have HFB1 := As.mk (HFB.out w2 HK2.out)
            clear HFA HSA HFB
            go_wp2_with (go_at_call 55; refine HFB1.out.mono ?_; rintro e w3 ⟨rfl, k3⟩; have HK3 := As.mk k3; clear k3 HFB1)
            go_region_held3 (fun w' => True) (exact trivial) (first
              | (go_at_call 55; refine (HF2.out w3.drew HK3.out.drew).mono ?_; rintro e w4 ⟨rfl, k4⟩; have HK4 := As.mk k4; clear k4)
              | (go_at_call 54; refine (HSM.out _ HK4.out).mono ?_; rintro e w5 ⟨rfl, k5⟩; have HK5 := As.mk k5; clear k5))
            clear HF2 HSM
            go_wp2_with (at_builtin; refine clone.app8 rfl (.tmp 37) (.tmp 41) rfl (.slice (some ⟨w5.heap.size, 0, none⟩) 0 0) 0 [] rfl (Acc.empty HK5.out).own (some ⟨b0, o0 + 8, none⟩) N (c - 8) (iv .u8 ((xs.take M).drop 8)) rfl (by rw [iv_len, HLX.out]) (HRX.out _ (HK5.out.alloc _)) (by simp) (iv_one _ _) (by omega) ?_; intro v6 w6 o6 k6 a6; have h6 := (Acc.empty HK5.out).more (X := []) o6 k6 a6 (Nat.zero_add N).symm; rw [List.nil_append] at h6; have HA6 := As.mk h6; clear o6 k6 a6 h6)
            go_ret3
            refine ⟨v6, by rw [HE.out]; rfl, ?_, HA6.out.kp⟩
            rw [HE.out]
            exact ⟨by have h9 := HA6.out.own; rwa [HLX.out], HA6.out.lo⟩
          · have HE : As (fDec xs = ([], 0, 4)) := ⟨by
              rw [fDec, if_neg (by omega), hN, if_neg (by simpa using hh8), if_neg (by omega), if_neg (by omega), Int.toNat_natCast, ← hM, if_pos (by rw [hz1, hz2]; exact hz)]⟩
            have hzb : (z1 != z2) = true := by simpa using hz
            have hsh2 : ((n : Int) < (K : Int)) = False := by simp; omega
            clear hr hw hn hN hh8 hrd2 hrd4 hn4 hc4 hy1 hy2 hz1 hz2 hlM hM hn2 hc2 hK hz
            go_enter Try.func22, Try.ntmps22
            go_wp2
            go_region_held3 (fun w' => True) (exact trivial) (first
              | (go_at_call 55; refine (HFA.out w.drew (Kp.refl [] w).drew).mono ?_; rintro e w1 ⟨rfl, k1⟩; have HK1 := As.mk k1; clear k1)
              | (go_at_call 54; refine (HSA.out _ HK1.out).mono ?_; rintro e w2 ⟨rfl, k2⟩; have HK2 := As.mk k2; clear k2))
            have HFB1 := As.mk (HFB.out w2 HK2.out)
            clear HFA HSA HFB
            go_wp2_with (go_at_call 55; refine HFB1.out.mono ?_; rintro e w3 ⟨rfl, k3⟩; have HK3 := As.mk k3; clear k3 HFB1)
            go_region_held3 (fun w' => True) (exact trivial) (first
              | (go_at_call 55; refine (HF2.out w3.drew HK3.out.drew).mono ?_; rintro e w4 ⟨rfl, k4⟩; have HK4 := As.mk k4; clear k4)
              | (go_at_call 54; refine (HSM.out _ HK4.out).mono ?_; rintro e w5 ⟨rfl, k5⟩; have HK5 := As.mk k5; clear k5))
            clear HF2 HSM
            go_wp2
            go_ret3
            exact fdec_none HE.out HK5.out
    · have HE : As (fDec xs = ([], 0, 4)) := ⟨by rw [fDec, if_neg (by omega), if_pos (fun h => hh (by rw [← hy1, ← hy2]; exact (head_iff hw (by omega)).1 h))]⟩
      have hyb : (y1 != y2) = true := by simpa using hh
      clear hr hw hn hN hrd4 hn4 hc4 hy1 hy2 hh
      go_enter Try.func22, Try.ntmps22
      go_wp2
      go_region_held3 (fun w' => True) (exact trivial) (first
        | (go_at_call 55; refine (HFA.out w.drew (Kp.refl [] w).drew).mono ?_; rintro e w1 ⟨rfl, k1⟩; have HK1 := As.mk k1; clear k1)
        | (go_at_call 54; refine (HSA.out _ HK1.out).mono ?_; rintro e w2 ⟨rfl, k2⟩; have HK2 := As.mk k2; clear k2))
      go_wp2
      go_ret3
      exact fdec_none HE.out HK2.out
end Go.Proofs.Ytlknlpiiogmfbaa.ref8
