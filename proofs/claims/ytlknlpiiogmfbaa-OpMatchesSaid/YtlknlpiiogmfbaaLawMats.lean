/- The walk of OpMatches: any places as bytes, and back. -/
import Derived.Test.YtlknlpiiogmfbaaMatB
import Derived.Test.YtlknlpiiogmfbaaMatC
import Derived.Test.YtlknlpiiogmfbaaMatD
import Derived.Test.YtlknlpiiogmfbaaMatE
import Derived.Test.YtlknlpiiogmfbaaLawReps
namespace Go.Proofs.Ytlknlpiiogmfbaa.haystacklaw13
open Go.RowKit H O opk

def MOk (x : ByteArray × Int) : Prop := (1 ≤ x.1.size ∧ x.1.size ≤ 64) ∧ 0 ≤ x.2 ∧ x.2 ≤ 4611686018427387904
theorem mIter_rows {ms : List (ByteArray × Int)} (h : ∀ x ∈ ms, MOk x) (r : List Int) : ∀ k, k ≤ ms.length → mIter k (some (mRows ms ++ r)) = (ms.take k, some (mRows (ms.drop k) ++ r))
  | 0, _ => by simp [mIter]
  | k + 1, hk => by
    have ih := mIter_rows h r k (by omega)
    have hx := h ms[k] (List.getElem_mem _)
    have e : ms.drop k = ms[k] :: ms.drop (k + 1) := List.drop_eq_getElem_cons (by omega)
    have hs := mStep_row (m := ms[k]) (r := mRows (ms.drop (k + 1)) ++ r) hx.1 hx.2
    simp only [mIter, ih, e, mRows_cons, List.append_assoc]
    rw [hs, take_succ' ms k (by omega)]
theorem dMs_rows {ms : List (ByteArray × Int)} (h : ∀ x ∈ ms, MOk x) (hn : ms.length ≤ 100000) : dMs (mBytes ms) = (ms, 0) := by
  have h0 : stNum (some (mBytes ms)) = (O.cl (ms.length : Int), some (mRows ms)) := stNum_num _ _
  have c0 := cl_of (n := (ms.length : Int)) (by omega) (by omega)
  have hc : O.cl (ms.length : Int) = ms.length := by omega
  have hi := mIter_rows h [] ms.length (Nat.le_refl _)
  rw [List.append_nil, List.take_length, List.drop_length] at hi
  rw [dMs_eq h0, hc, hi]
  simp [mRows]
theorem mBytes_len (ms : List (ByteArray × Int)) : (mBytes ms).length ≤ 9 + 4 * mSize ms := by
  have h1 := num_len (ms.length : Int)
  have h2 := mRows_len ms
  simp only [mBytes, List.length_append]
  omega
theorem DMs_same {xs : List Int} {w w' : World} {e : Ending} {l : List (ByteArray × Int)} {z : Int} (h : refr.DMs xs w e w') (hd : dMs xs = (l, z)) : ∃ A n c, e = .returned (.tuple #[.slice A n c, .int .i64 z]) ∧ Kp [] w w' := by
  obtain ⟨l', z', A, n, c, hd', rfl, _, _, _, _, k⟩ := h
  rw [hd] at hd'
  cases hd'
  exact ⟨A, n, c, rfl, k⟩

set_option maxHeartbeats 8000000 in
set_option maxRecDepth 100000 in
theorem mats_law (w : World) (A : Option Addr) (n c : Nat) (ms : List (ByteArray × Int)) (hn : ms.length = n) (hr : Rd w A (mv ms)) (hks : ∀ x ∈ ms, x.1.size ≤ 140737488351232) (hb : n ≤ 140737488351232) :
    Calls Try.prog 10 #[.slice A n c] w fun e w' => e = .returned (.bool true) ∧ Below w.heap.size w w' := by
  have HR := As.mk hr
  have HN := As.mk hn
  have HKS := As.mk hks
  clear hr hn hks
  go_enter Try.func10, Try.ntmps10
  go_wp2
  go_loopw [3, 4] (fun s i wr => ∃ k t : Nat, i = .int .i64 (k : Int) ∧ s = .int .i64 (t : Int) ∧ k ≤ n ∧ As (t = mSize (ms.take k)) ∧ As (wr = w)) (fun _ i _ => n - (intOf i).toNat)
  case atStart => exact ⟨0, 0, rfl, rfl, by omega, ⟨by simp [mSize]⟩, ⟨rfl⟩⟩
  case round =>
    obtain ⟨k, t, rfl, rfl, hk, HT, ⟨rfl⟩⟩ := hrel
    by_cases hbig : 6000 < t
    · by_cases hlt : k < n
      · go_wp2
        go_ret
        exact ⟨rfl, (Kp.refl [] _).below⟩
      · go_wp2
        go_ret
        exact ⟨rfl, (Kp.refl [] _).below⟩
    · have hs6 : t ≤ 6000 := by omega
      by_cases hlt : k < n
      · have hlt' : k < ms.length := by rw [HN.out]; exact hlt
        obtain ⟨b0, o0, rfl, d0, d1⟩ := mv_at HR.out k hlt'
        obtain ⟨key, hkey⟩ : ∃ key, key = ms[k].1 := ⟨_, rfl⟩
        obtain ⟨m, hkm⟩ : ∃ m, key.size = m := ⟨_, rfl⟩
        rw [← hkey] at d0
        have hm : m ≤ 140737488351232 := by rw [← hkm, hkey]; exact HKS.out _ (List.getElem_mem _)
        have HNX : As (t + 5 + m = mSize (ms.take (k + 1))) := ⟨by rw [mSize_step ms k hlt', ← HT.out, ← hkey, hkm]⟩
        clear d1 hkey hlt'
        go_wp2
        go_roundw
        case rel => exact ⟨k + 1, t + 5 + m, by go_num, by go_num, by omega, HNX, ⟨trivial⟩⟩
        case measure => simp [intOf]; omega
      · obtain rfl : k = n := by omega
        have htk : ms.take k = ms := List.take_of_length_le (by rw [HN.out]; exact Nat.le_refl _)
        rw [htk] at HT
        obtain ⟨w, rfl⟩ : ∃ w, w = wr := ⟨_, rfl⟩
        obtain ⟨X, hX⟩ : ∃ X, X = mBytes ms := ⟨_, rfl⟩
        obtain ⟨N, hN⟩ : ∃ N, X.length = N := ⟨_, rfl⟩
        have hN9 : N ≤ 25000 := by have := mBytes_len ms; have := HT.out; rw [← hN, hX]; omega
        have hk9 : k ≤ 6000 := by have := mSize_len ms; have := HT.out; have := HN.out; omega
        have HXV := As.mk hX
        have HNV := As.mk hN
        have HWX : As (Wf X) := ⟨by rw [hX]; exact mBytes_wf ms⟩
        have HE1 : As (Calls Try.prog 35 #[.slice A k c] w fun e w' => ∃ A1 c1, e = .returned (.slice A1 N c1) ∧ Rd w' A1 (iv .u8 X) ∧ Kp [] w w' ∧ N ≤ c1 ∧ c1 ≤ 9223372036854775807 ∧ (A1 = none → c1 = 0) ∧ ∀ a, A1 = some a → a.block < w'.heap.size) := ⟨by
          refine (mat_any A k c ms w HN.out HR.out (by have := HT.out; omega)).mono ?_
          rintro e w' ⟨v, rfl, o, kk⟩
          rw [← hX] at o
          obtain ⟨A1, c1, rfl, g1, x1, r1, n1⟩ := own_rd o.1
          rw [hN] at g1 ⊢
          exact ⟨A1, c1, rfl, r1, kk, g1, x1, n1, fun a ha => own_lt o.1 a.block (by rw [ha]; rfl)⟩⟩
        have HE2 : As (∀ wX, Kp [] w wX → Calls Try.prog 36 #[.slice A k c] wX fun e w' => ∃ A1 c1, e = .returned (.slice A1 N c1) ∧ Rd w' A1 (iv .u8 X) ∧ Kp [] wX w') := ⟨fun wX kX => by
          refine (ref13.mat_any A k c ms wX HN.out (kX.rd_new HR.out (by simp)) (by have := HT.out; omega)).mono ?_
          rintro e w' ⟨v, rfl, o, kk⟩
          rw [← hX] at o
          obtain ⟨A1, c1, rfl, _, _, r1, n1⟩ := own_rd o.1
          rw [hN]
          exact ⟨A1, c1, rfl, r1, kk⟩⟩
        clear htk hX hN HT hlt
        go_wp2_with (first
          | (go_at_call 35; refine HE1.out.mono ?_; rintro e' w1 ⟨A1, c1, rfl, r1, k1, g1, x1, n1, b1⟩; have HK1 := As.mk k1; have HR1 := As.mk r1; have HG1 := As.mk g1; have HX1 := As.mk x1; have HN1 := As.mk n1; have HB1 := As.mk b1; have HE22 := As.mk (HE2.out w1 k1); clear r1 k1 g1 x1 n1 b1 HE1 HE2)
          | (go_at_call 36; refine HE22.out.mono ?_; rintro e' w2 ⟨A2, c2, rfl, r2, k2⟩; have HK12 := As.mk k2; have HQ := As.mk (same_self' (A := A1) (B := A2) (c := c1) (d := c2) HNV.out (k2.rd HR1.out (fun _ _ => by simp)) r2 (by omega)); clear r2 k2 HE22)
          | (go_at_call 29; refine HQ.out.mono ?_; rintro e' w3 ⟨rfl, k3⟩; have HK13 : As (Kp [] w1 w3) := ⟨HK12.out.trans k3 (by simp)⟩; have HRM := As.mk (readMs_any A1 N c1 X w3 HNV.out (HK13.out.rd HR1.out (fun _ _ => by simp)) HN1.out HWX.out (by omega)); clear k3 HQ)
          | (go_at_call 37; refine HRM.out.mono ?_; rintro e' w4 ⟨l4, z4, A4, n4, c4, hd4, rfl, hl4, r4, _, _, k4⟩; have HD4 := As.mk hd4; have HL4 := As.mk hl4; have HR4 := As.mk r4; have HK14 : As (Kp [] w1 w4) := ⟨HK13.out.trans k4 (by simp)⟩; have HK4 : As (Kp [] w w4) := ⟨HK1.out.trans HK14.out (by simp)⟩; clear hd4 hl4 r4 k4 HRM))
        go_loopw [8] (fun i wr => ∃ j : Nat, i = .int .i64 (j : Int) ∧ j ≤ k ∧ As (wr = w4) ∧ As (∀ x ∈ ms.take j, MOk x)) (fun i _ => k - (intOf i).toNat)
        case atStart => exact ⟨0, rfl, by omega, ⟨rfl⟩, ⟨by simp⟩⟩
        case round =>
          obtain ⟨j, rfl, hj, ⟨rfl⟩, HV⟩ := hrel
          by_cases hlt : j < k
          · have hlt' : j < ms.length := by rw [HN.out]; exact hlt
            obtain ⟨b0, o0, rfl, d0, d1⟩ := mv_at HR.out j hlt'
            have e0 := HK4.out.cell d0 (by simp)
            have e1 := HK4.out.cell d1 (by simp)
            obtain ⟨key, hkey⟩ : ∃ key, key = ms[j].1 := ⟨_, rfl⟩
            obtain ⟨x, hx⟩ : ∃ x, x = ms[j].2 := ⟨_, rfl⟩
            obtain ⟨m, hkm⟩ : ∃ m, key.size = m := ⟨_, rfl⟩
            rw [← hkey] at e0
            rw [← hx] at e1
            have hm : m ≤ 140737488351232 := by rw [← hkm, hkey]; exact HKS.out _ (List.getElem_mem _)
            have HVX : As ((1 ≤ m ∧ m ≤ 64) ∧ 0 ≤ x ∧ x ≤ 4611686018427387904 → ∀ y ∈ ms.take (j + 1), MOk y) := ⟨by
              intro h y hy
              rw [take_succ' ms j hlt', List.mem_append, List.mem_singleton] at hy
              rcases hy with hy | rfl
              · exact HV.out y hy
              · rw [← hkm, hkey, hx] at h; exact h⟩
            have HRR := As.mk (ref13.readMs_any A1 N c1 X wr HNV.out (HK14.out.rd HR1.out (fun _ _ => by simp)) HG1.out HX1.out HN1.out (fun a ha => by have h1 := HB1.out a ha; have h2 := HK14.out.size; omega) HWX.out (by omega))
            have HRS : As (Calls Try.prog 38 #[.slice A1 N c1] wr fun e w' => ∃ A5 n5 c5, e = .returned (.tuple #[.slice A5 n5 c5, .int .i64 z4]) ∧ Kp [] wr w') := ⟨HRR.out.mono (fun e w' h => DMs_same h HD4.out)⟩
            clear d0 d1 hkey hx hlt' HRR
            by_cases hm1 : m < 1
            · go_wp2_with (first
                | (go_at_call 38; refine HRS.out.mono ?_; rintro e' w5 ⟨A5, n5, c5, rfl, k5⟩; have HK5 := As.mk (HK4.out.trans k5 (by simp)); clear k5 HRS)
                | (go_at_call 28; refine (known_any _).mono ?_; rintro e' w6 ⟨rfl, k6⟩; have HKE := As.mk (HK5.out.trans k6 (by simp)); clear k6))
              go_ret
              exact ⟨rfl, HKE.out.below⟩
            · by_cases hm2 : 64 < m
              · go_wp2_with (first
                  | (go_at_call 38; refine HRS.out.mono ?_; rintro e' w5 ⟨A5, n5, c5, rfl, k5⟩; have HK5 := As.mk (HK4.out.trans k5 (by simp)); clear k5 HRS)
                  | (go_at_call 28; refine (known_any _).mono ?_; rintro e' w6 ⟨rfl, k6⟩; have HKE := As.mk (HK5.out.trans k6 (by simp)); clear k6))
                go_ret
                exact ⟨rfl, HKE.out.below⟩
              · by_cases hx1 : x < 0
                · go_wp2_with (first
                    | (go_at_call 38; refine HRS.out.mono ?_; rintro e' w5 ⟨A5, n5, c5, rfl, k5⟩; have HK5 := As.mk (HK4.out.trans k5 (by simp)); clear k5 HRS)
                    | (go_at_call 28; refine (known_any _).mono ?_; rintro e' w6 ⟨rfl, k6⟩; have HKE := As.mk (HK5.out.trans k6 (by simp)); clear k6))
                  go_ret
                  exact ⟨rfl, HKE.out.below⟩
                · by_cases hx2 : 4611686018427387904 < x
                  · go_wp2_with (first
                      | (go_at_call 38; refine HRS.out.mono ?_; rintro e' w5 ⟨A5, n5, c5, rfl, k5⟩; have HK5 := As.mk (HK4.out.trans k5 (by simp)); clear k5 HRS)
                      | (go_at_call 28; refine (known_any _).mono ?_; rintro e' w6 ⟨rfl, k6⟩; have HKE := As.mk (HK5.out.trans k6 (by simp)); clear k6))
                    go_ret
                    exact ⟨rfl, HKE.out.below⟩
                  · have HV2 := As.mk (HVX.out ⟨⟨by omega, by omega⟩, by omega, by omega⟩)
                    clear HRS
                    go_wp2
                    go_roundw
                    case rel => exact ⟨j + 1, by go_num, by omega, ⟨trivial⟩, HV2⟩
                    case measure => simp [intOf]; omega
          · obtain rfl : j = k := by omega
            have htk : ms.take j = ms := List.take_of_length_le (by rw [HN.out]; exact Nat.le_refl _)
            rw [htk] at HV
            have hd := HD4.out
            rw [HXV.out, dMs_rows HV.out (by rw [HN.out]; omega)] at hd
            cases hd
            have hn4 : n4 = j := by rw [← HL4.out]; exact HN.out
            subst hn4
            have HMM := As.mk (matches_any A4 A n4 c4 n4 c ms ms wr HN.out HN.out HR4.out (HK4.out.rd_new HR.out (by simp)) (by omega) (by omega))
            rw [decide_eq_true (rfl : ms = ms)] at HMM
            clear htk
            go_wp2_with (first
              | (go_at_call 39; refine HMM.out.mono ?_; rintro e' w5 ⟨rfl, k5⟩; have HK5 := As.mk (HK4.out.trans k5 (by simp)); clear k5 HMM)
              | (go_at_call 28; refine (known_any _).mono ?_; rintro e' w6 ⟨rfl, k6⟩; have HKE := As.mk (HK5.out.trans k6 (by simp)); clear k6))
            go_ret
            exact ⟨rfl, HKE.out.below⟩


theorem mats_row (w : World) (A : Option Addr) (n c : Nat) (ms : List (ByteArray × Int)) (hn : ms.length = n) (hr : Rd w A (mv ms)) (_ : n ≤ c) (_ : c ≤ 9223372036854775807) (_ : A = none → c = 0) (_ : ∀ x ∈ ms, (Lit.int .i64 x.2).wf = true) (hks : ∀ x ∈ ms, x.1.size ≤ 140737488351232) (hz : n * 24 ≤ 140737488351232) :
    Calls Try.prog 10 #[.slice A n c] w fun e w' => e = .returned (.bool true) ∧ Below w.heap.size w w' :=
  mats_law w A n c ms hn hr hks (by omega)
end Go.Proofs.Ytlknlpiiogmfbaa.haystacklaw13
