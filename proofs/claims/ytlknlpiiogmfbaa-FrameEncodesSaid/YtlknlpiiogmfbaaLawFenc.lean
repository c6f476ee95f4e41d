/- The walk of FrameEncodes: any rows as one record, and back, whatever stands behind. -/
import Derived.Test.YtlknlpiiogmfbaaLawFdec
namespace Go.Proofs.Ytlknlpiiogmfbaa.haystacklaw8
open Go.RowKit H O joins frame

theorem flat_wf {l : List (List Int)} (h : ∀ x ∈ l, Wf x) : Wf l.flatten := by
  intro x hx
  obtain ⟨y, hy, hx⟩ := List.mem_flatten.1 hx
  exact h y hy x hx
theorem fOne_enc {p : List Int} (hp : p.length ≤ 1048576) : fOne (fEnc p) = (p, 0) := by
  have h := fDec_enc (p := p) [] hp
  rw [List.append_nil] at h
  rw [fOne, h, if_neg]
  rw [fEnc_len]
  rintro ⟨_, h2⟩
  exact h2 rfl
theorem fOne_more {p : List Int} (hp : p.length ≤ 1048576) : fOne (fEnc p ++ [1]) = ([], 3) := by
  have h := fDec_enc (p := p) [1] hp
  rw [fOne, h, if_pos]
  rw [List.length_append, fEnc_len]
  refine ⟨rfl, ?_⟩
  show p.length + 12 ≠ p.length + 12 + 1
  omega

set_option maxHeartbeats 8000000 in
set_option maxRecDepth 100000 in
theorem fenc_law (A : Option Addr) (n c : Nat) (l : List (List Int)) (hn : l.length = n) (B : Option Addr) (m d : Nat) (r : List Int) (hm : r.length = m) (w : World) (hr : Rs [] w A l) (hr2 : Rd w B (iv .u8 r))
    (hc : n ≤ c) (hnB : B = none → d = 0) (hw : ∀ x ∈ l, Wf x) (hw2 : Wf r) (hb : n ≤ 70368744177664) (hb2 : m ≤ 140737488351232) :
    Calls Try.prog 4 #[.slice A n c, .slice B m d] w fun e w' => e = .returned (.bool true) ∧ Below w.heap.size w w' := by
  have HR := As.mk hr
  have HR2 := As.mk hr2
  have HL := As.mk hn
  have HM := As.mk hm
  have HW := As.mk hw
  have HW2 := As.mk hw2
  have HNB := As.mk hnB
  clear hr hr2 hn hm hw hw2 hnB
  go_enter Try.func4, Try.ntmps4
  go_wp2
  go_loopw [5, 6] (fun s i wr => ∃ (k T cA : Nat) (AA : Option Addr), i = .int .i64 (k : Int) ∧ s = .slice AA T cA ∧ k ≤ n ∧ T ≤ 8000 ∧ As (Acc w wr (.slice AA T cA) T (l.take k).flatten)) (fun _ i _ => n - (intOf i).toNat)
  case atStart => exact ⟨0, 0, 0, none, rfl, rfl, by omega, by omega, ⟨Acc.nil w⟩⟩
  case round =>
    obtain ⟨k, T, cA, AA, rfl, rfl, hk, hT, HS⟩ := hrel
    by_cases hlt : k < n
    · have hlx : k < l.length := by rw [HL.out]; exact hlt
      obtain ⟨a, Aj, cj, rfl, -, d0, hcj, hnj, rj⟩ := HR.out k hlx
      have d1 := HS.out.kp.cell d0 (by simp)
      obtain ⟨x, hx⟩ : ∃ x, l[k] = x := ⟨_, rfl⟩
      obtain ⟨nx, hnx⟩ : ∃ nx, x.length = nx := ⟨_, rfl⟩
      rw [hx] at hcj rj
      rw [hx, hnx] at d1
      rw [hnx] at hcj
      have hki : (k : Int) < (n : Int) := by omega
      by_cases hbig : 4000 < nx
      · have HK := As.mk HS.out.kp
        clear HS rj hx hnx d0 hnj hlx
        go_wp2
        go_ret
        exact ⟨rfl, HK.out.below⟩
      · by_cases hbig2 : 4000 < T
        · have HK := As.mk HS.out.kp
          clear HS rj hx hnx d0 hnj hlx
          go_wp2
          go_ret
          exact ⟨rfl, HK.out.below⟩
        · obtain ⟨T', hT'⟩ : ∃ T', T' = T + nx := ⟨_, rfl⟩
          have HST : As ((l.take (k + 1)).flatten = (l.take k).flatten ++ x) := ⟨by rw [joins.flat_step l k hlx, hx]⟩
          have HRJ := As.mk (HS.out.kp.rd_new rj.rd (by simp))
          have HNJ := As.mk hnj
          have HT' := As.mk hT'
          have HNX := As.mk hnx
          have hT9 : T' ≤ 8000 := by omega
          clear rj hx hnx d0 hnj hlx hcj hT'
          go_wp2_with (at_builtin; refine clone.app8 rfl (.tmp 35) (.tmp 39) rfl (.slice AA T cA) T (iv .u8 (l.take k).flatten) rfl HS.out.own Aj nx cj (iv .u8 x) rfl (by rw [iv_len, HNX.out]) HRJ.out HNJ.out (iv_one _ _) (by omega) ?_; intro v2 w2 o2 k2 a2; have hs2 := HS.out.more o2 k2 a2 HT'.out; rw [← HST.out] at hs2; obtain ⟨A2, c2, rfl, _, _, _, _⟩ := own_rd hs2.own; have HS3 := As.mk hs2; clear o2 k2 a2 hs2)
          go_roundw
          case rel => exact ⟨k + 1, T', c2, A2, by go_num, rfl, by omega, hT9, HS3⟩
          case measure => simp [intOf]; omega
    · obtain rfl : k = n := by omega
      have htk : l.take k = l := List.take_of_length_le (by rw [HL.out]; exact Nat.le_refl _)
      rw [htk] at HS
      obtain ⟨X, hX⟩ : ∃ X, X = l.flatten := ⟨_, rfl⟩
      rw [← hX] at HS
      clear htk
      by_cases hj : (T : Int) + m > 4000
      · clear hX
        go_wp2
        go_ret
        exact ⟨rfl, HS.out.kp.below⟩
      · obtain ⟨N, hN⟩ : ∃ N, N = T + 12 := ⟨_, rfl⟩
        have hXT := HS.out.len
        have hwX : Wf X := by rw [hX]; exact flat_wf HW.out
        obtain ⟨E, hE⟩ : ∃ E, E = fEnc X := ⟨_, rfl⟩
        have hEN : E.length = N := by rw [hE, fEnc_len, hXT, hN]
        have hwE : Wf E := by rw [hE]; exact fEnc_wf hwX
        obtain ⟨A0, c0, hv0, hTc, _, hr0, hn0⟩ := own_rd HS.out.own
        cases hv0
        have HEN : As (Calls Try.prog 13 #[.slice A k c] wr fun e w' => ∃ A1 c1, e = .returned (.tuple #[.slice A1 N c1, .int .i64 0]) ∧ Kp [] wr w' ∧ Rd w' A1 (iv .u8 E) ∧ N ≤ c1 ∧ (A1 = none → c1 = 0)) := ⟨by
          refine (enc_any A k c l wr HL.out (HR.out.kp HS.out.kp (by simp)) hc HW.out (by rw [← hX]; omega) hb).mono ?_
          rw [← hX]
          rintro e w' ⟨A1, c1, rfl, k1, j1, r1, g1, g1', n1⟩
          rw [hXT, ← hN] at g1 ⊢
          rw [← hE] at r1
          exact ⟨A1, c1, rfl, k1, r1, g1, n1⟩⟩
        have HER : As (∀ wX, Kp [] wr wX → Calls Try.prog 16 #[.slice AA T cA] wX fun e w' => ∃ A1 c1, e = .returned (.tuple #[.slice A1 N c1, .int .i64 0]) ∧ Kp [] wX w' ∧ Rd w' A1 (iv .u8 E)) := ⟨fun wX kX => by
          refine (ref8.enc_any AA T cA X wX hXT (kX.rd hr0 (fun _ _ => by simp)) hn0 hwX (by omega) N hN).mono ?_
          rintro e w' ⟨A1, c1, rfl, a1, g1⟩
          obtain ⟨A9, c9, h9, _, _, r9, _⟩ := own_rd a1.own
          cases h9
          rw [hE]
          exact ⟨A1, c1, rfl, a1.kp, r9⟩⟩
        obtain ⟨L2, hL2⟩ : ∃ L2, L2 = N + m := ⟨_, rfl⟩
        obtain ⟨N1, hN1⟩ : ∃ N1, N1 = N + 1 := ⟨_, rfl⟩
        have HDE : As (∀ (B9 : Option Addr) (d9 : Nat) (wX : World), L2 ≤ d9 → Rd wX B9 (iv .u8 (E ++ r)) → Calls Try.prog 14 #[.slice B9 L2 d9] wX fun e' w' => ∃ A1 c1, e' = .returned (.tuple #[.slice A1 T c1, .int .i64 (N : Int), .int .i64 0]) ∧ Rd w' A1 (iv .u8 X) ∧ Kp [] wX w') := ⟨fun B9 d9 wX hd rX => by
          refine (dec_any B9 L2 d9 (E ++ r) wX (by rw [List.length_append, hEN, HM.out, hL2]) rX hd (wf_app hwE HW2.out) (by omega)).mono ?_
          rintro e' w' ⟨v, rfl, o, kk⟩
          have hfd : fDec (E ++ r) = (X, N, 0) := by rw [hE, fDec_enc r (by omega), hXT, hN]
          rw [hfd] at o ⊢
          obtain ⟨A1, c1, rfl, _, _, r1, _⟩ := own_rd o.1
          exact ⟨A1, c1, by rw [hXT], r1, kk⟩⟩
        have HO1 : As (∀ (B9 : Option Addr) (d9 : Nat) (wX : World), N ≤ d9 → Rd wX B9 (iv .u8 E) → Calls Try.prog 18 #[.slice B9 N d9] wX fun e' w' => ∃ A1 c1, e' = .returned (.tuple #[.slice A1 T c1, .int .i64 0]) ∧ Rd w' A1 (iv .u8 X) ∧ Kp [] wX w') := ⟨fun B9 d9 wX hd rX => by
          refine (one_any B9 N d9 E wX hEN rX hd hwE (by omega)).mono ?_
          rintro e' w' ⟨v, rfl, o, kk⟩
          have hfd : fOne E = (X, 0) := by rw [hE, fOne_enc (by omega)]
          rw [hfd] at o ⊢
          obtain ⟨A1, c1, rfl, _, _, r1, _⟩ := own_rd o.1
          exact ⟨A1, c1, by rw [hXT], r1, kk⟩⟩
        have HO2 : As (∀ (B9 : Option Addr) (d9 : Nat) (wX : World), N1 ≤ d9 → Rd wX B9 (iv .u8 (E ++ [1])) → Calls Try.prog 18 #[.slice B9 N1 d9] wX fun e' w' => ∃ A1 c1, e' = .returned (.tuple #[.slice A1 0 c1, .int .i64 3]) ∧ Kp [] wX w') := ⟨fun B9 d9 wX hd rX => by
          refine (one_any B9 N1 d9 (E ++ [1]) wX (by rw [List.length_append, hEN, hN1]; rfl) rX hd (wf_app hwE (wf1 (by decide) (by decide))) (by omega)).mono ?_
          rintro e' w' ⟨v, rfl, o, kk⟩
          have hfd : fOne (E ++ [1]) = ([], 3) := by rw [hE, fOne_more (by omega)]
          rw [hfd] at o ⊢
          obtain ⟨A1, c1, rfl, _, _, r1, _⟩ := own_rd o.1
          exact ⟨A1, c1, rfl, kk⟩⟩
        have HEL := As.mk hEN
        have HXT := As.mk hXT
        have HL2 := As.mk hL2
        have HN1 := As.mk hN1
        have HR0 := As.mk hr0
        have hN9 : N ≤ 4012 := by omega
        clear hX hN hXT hwX hE hEN hwE hr0 hn0 hL2 hN1 hTc
        go_wp2_with (first
          | (go_at_call 13; refine HEN.out.mono ?_; rintro e' w1 ⟨A1, c1, rfl, k1, r1, g1, n1⟩; have HK1 := As.mk k1; have HR1 := As.mk r1; have HA1 := As.mk n1; have HE1 := As.mk (HER.out w1 k1); clear k1 r1 n1 HEN HER)
          | (go_at_call 16; refine HE1.out.mono ?_; rintro e' w2 ⟨A2, c2, rfl, k2, r2⟩; have HK12 := As.mk k2; have HK2 : As (Kp [] w w2) := ⟨HS.out.kp.trans (HK1.out.trans k2 (by simp)) (by simp)⟩; have HQ1 := As.mk (same_self (A := A1) (B := A2) (c := c1) (d := c2) HEL.out (k2.rd HR1.out (fun _ _ => by simp)) r2 (by omega)); clear k2 r2 HE1)
          | (go_at_call 17; refine HQ1.out.mono ?_; rintro e' w3 ⟨rfl, k3⟩; have HK3 : As (Kp [] w w3) := ⟨HK2.out.trans k3 (by simp)⟩; have HR3 := As.mk ((HK12.out.trans k3 (by simp)).rd HR1.out (fun _ _ => by simp)); have HKR3 : As (Kp [] wr w3) := ⟨HK1.out.trans (HK12.out.trans k3 (by simp)) (by simp)⟩; clear k3 HQ1)
          | (at_builtin; refine clone.app8 rfl (.tmp 69) (.tmp 70) rfl (.slice A4 N c4) N (iv .u8 E) rfl HS4.out.own B m d (iv .u8 r) rfl (by rw [iv_len, HM.out]) ((HK3.out.trans HS4.out.kp (by simp)).rd_new HR2.out (by simp)) HNB.out (iv_one _ _) (by omega) ?_; intro v5 w5 o5 k5 a5; have h5 := HS4.out.more o5 k5 a5 HL2.out; obtain ⟨A5, c5, rfl, hc5, _, r5, _⟩ := own_rd h5.own; have HK35 := As.mk h5.kp; have HD5 := As.mk (HDE.out A5 c5 w5 hc5 r5); clear o5 k5 a5 h5 r5 HS4)
          | (at_builtin; refine clone.app8 rfl (.tmp 67) (.tmp 68) rfl (.slice (some ⟨w3.heap.size, 0, none⟩) 0 0) 0 [] rfl (Acc.empty (Kp.refl [] w3)).own A1 N c1 (iv .u8 E) rfl (by rw [iv_len, HEL.out]) (((Kp.refl [] w3).alloc _).rd HR3.out (fun _ _ => by simp)) HA1.out (iv_one _ _) (by omega) ?_; intro v4 w4 o4 k4 a4; have h4 := (Acc.empty (Kp.refl [] w3)).more (X := []) o4 k4 a4 (Nat.zero_add N).symm; rw [List.nil_append] at h4; obtain ⟨A4, c4, rfl, _, _, _, _⟩ := own_rd h4.own; have HS4 := As.mk h4; clear o4 k4 a4 h4)
          | (go_at_call 14; refine HD5.out.mono ?_; rintro e' w6 ⟨A6, c6, rfl, r6, k6⟩; have HK36 : As (Kp [] w3 w6) := ⟨HK35.out.trans k6 (by simp)⟩; have HR6 := As.mk r6; have HN6 := As.mk (HO1.out A1 c1 w6 g1 (HK36.out.rd HR3.out (fun _ _ => by simp))); clear r6 k6 HD5)
          | (go_at_call 18; refine HN6.out.mono ?_; rintro e' w7 ⟨A7, c7, rfl, r7, k7⟩; have HK67 := As.mk k7; have HR7 := As.mk r7; have HK37 : As (Kp [] w3 w7) := ⟨HK36.out.trans k7 (by simp)⟩; have HR17 := As.mk (HK37.out.rd HR3.out (fun _ _ => by simp)); clear r7 k7 HN6)
          | (at_builtin; refine clone.app8_one rfl (.tmp 84) (.tmp 85) rfl (.slice A8 N c8) N (iv .u8 E) rfl HS8.out.own 1 rfl (by omega) ?_; intro v9 w9 o9 k9 a9; have h9 := HS8.out.one o9 k9 a9 HN1.out; obtain ⟨A9, c9, rfl, hc9, _, r9, _⟩ := own_rd h9.own; have HK79 := As.mk h9.kp; have HN9 := As.mk (HO2.out A9 c9 w9 hc9 r9); clear o9 k9 a9 h9 r9 HS8)
          | (at_builtin; refine clone.app8 rfl (.tmp 82) (.tmp 83) rfl (.slice (some ⟨w7.heap.size, 0, none⟩) 0 0) 0 [] rfl (Acc.empty (Kp.refl [] w7)).own A1 N c1 (iv .u8 E) rfl (by rw [iv_len, HEL.out]) (((Kp.refl [] w7).alloc _).rd HR17.out (fun _ _ => by simp)) HA1.out (iv_one _ _) (by omega) ?_; intro v8 w8 o8 k8 a8; have h8 := (Acc.empty (Kp.refl [] w7)).more (X := []) o8 k8 a8 (Nat.zero_add N).symm; rw [List.nil_append] at h8; obtain ⟨A8, c8, rfl, _, _, _, _⟩ := own_rd h8.own; have HS8 := As.mk h8; clear o8 k8 a8 h8)
          | (go_at_call 18; refine HN9.out.mono ?_; rintro e' w10 ⟨A10, c10, rfl, k10⟩; have HK7A : As (Kp [] w7 w10) := ⟨HK79.out.trans k10 (by simp)⟩; have HK3A : As (Kp [] w3 w10) := ⟨HK37.out.trans HK7A.out (by simp)⟩; have HR0A := As.mk ((HKR3.out.trans HK3A.out (by simp)).rd HR0.out (fun _ _ => by simp)); have HQ2 := As.mk (same_self (A := A6) (B := AA) (c := c6) (d := cA) HXT.out ((HK67.out.trans HK7A.out (by simp)).rd HR6.out (fun _ _ => by simp)) HR0A.out (by omega)); clear k10 HN9)
          | (go_at_call 17; refine HQ3.out.mono ?_; rintro e' w12 ⟨rfl, k12⟩; have HKC : As (Kp [] w w12) := ⟨HK3.out.trans (HK3A.out.trans (HKAB.out.trans k12 (by simp)) (by simp)) (by simp)⟩; clear k12 HQ3)
          | (go_at_call 17; refine HQ2.out.mono ?_; rintro e' w11 ⟨rfl, k11⟩; have HKAB := As.mk k11; have HQ3 := As.mk (same_self (A := A7) (B := AA) (c := c7) (d := cA) HXT.out ((HK7A.out.trans k11 (by simp)).rd HR7.out (fun _ _ => by simp)) (k11.rd HR0A.out (fun _ _ => by simp)) (by omega)); clear k11 HQ2)
          | (go_at_call 15; refine (known_any _).mono ?_; rintro e' w13 ⟨rfl, k13⟩; have HKE : As (Kp [] w w13) := ⟨HKC.out.trans k13 (by simp)⟩; clear k13))
        go_ret
        exact ⟨rfl, HKE.out.below⟩

theorem fenc_row (w : World) (A : Option Addr) (n c : Nat) (l : List (List Int)) (hl : l.length = n) (hr : Rs [] w A l) (hc : n ≤ c) (_ : c ≤ 9223372036854775807) (_ : A = none → c = 0)
    (hw : ∀ x ∈ l, x.length ≤ 9223372036854775807 ∧ ∀ y ∈ x, (Lit.int .u8 y).wf = true) (hz : n * 24 ≤ 140737488351232)
    (B : Option Addr) (m d : Nat) (r : List Int) (hm : r.length = m) (hr2 : Rd w B (iv .u8 r)) (_ : m ≤ d) (_ : d ≤ 9223372036854775807) (hnB : B = none → d = 0) (hw2 : ∀ y ∈ r, (Lit.int .u8 y).wf = true) (hz2 : m * 1 ≤ 140737488351232) :
    Calls Try.prog 4 #[.slice A n c, .slice B m d] w fun e w' => e = .returned (.bool true) ∧ Below w.heap.size w w' :=
  fenc_law A n c l hl B m d r hm w hr hr2 hc hnB (fun x hx y hy => wf_u8 ((hw x hx).2 y hy)) (fun x hx => wf_u8 (hw2 x hx)) (by omega) (by omega)

end Go.Proofs.Ytlknlpiiogmfbaa.haystacklaw8
