/- The walk of FrameTears: of records that are cut short anywhere Scan tells those that are whole. -/
import Derived.Test.YtlknlpiiogmfbaaKnown8
import Derived.Test.YtlknlpiiogmfbaaFrameT
import Derived.Test.YtlknlpiiogmfbaaRowsEq8
import Derived.Test.YtlknlpiiogmfbaaOpen
namespace Go.Proofs.Ytlknlpiiogmfbaa.haystacklaw8
open Go.RowKit H O joins frame

set_option maxHeartbeats 8000000 in
set_option maxRecDepth 100000 in
theorem tears_law (A : Option Addr) (n c : Nat) (l : List (List Int)) (hn : l.length = n) (at_ : Int) (w : World) (hr : Rs [] w A l)
    (hc : n ≤ c) (hnA : A = none → c = 0) (hw : ∀ x ∈ l, Wf x) (hb : n ≤ 4611686018427387904) :
    Calls Try.prog 5 #[.slice A n c, .int .i64 at_] w fun e w' => e = .returned (.bool true) ∧ Below w.heap.size w w' := by
  have HR := As.mk hr
  have HL := As.mk hn
  have HW := As.mk hw
  have HNA := As.mk hnA
  clear hr hn hw hnA
  go_enter Try.func5, Try.ntmps5
  go_wp2
  go_loopw [5, 6, 7] (fun s t i wr => ∃ (k T cA cE : Nat) (AA AE : Option Addr), i = .int .i64 (k : Int) ∧ s = .slice AA T cA ∧ t = .slice AE k cE ∧ k ≤ n ∧ T ≤ 4000 ∧ 12 * k ≤ T ∧ As (Pair w wr (.slice AA T cA) (.slice AE k cE) (encs (l.take k)) (endsE l k) ∧ ∀ x ∈ l.take k, x.length ≤ 4000) ∧ As ((encs (l.take k)).length = T)) (fun _ _ i _ => n - (intOf i).toNat)
  case atStart => exact ⟨0, 0, 0, 0, none, none, rfl, rfl, rfl, by omega, by omega, by omega, ⟨Pair.start w, by simp⟩, ⟨rfl⟩⟩
  case round =>
    obtain ⟨k, T, cA, cE, AA, AE, rfl, rfl, rfl, hk, hT, hkT, HS, HT⟩ := hrel
    by_cases hlt : k < n
    · have hlx : k < l.length := by rw [HL.out]; exact hlt
      obtain ⟨a, Aj, cj, rfl, -, d0, hcj, hnj, rj⟩ := HR.out k hlx
      have d1 := HS.out.1.kp.cell d0 (by simp)
      obtain ⟨x, hx⟩ : ∃ x, l[k] = x := ⟨_, rfl⟩
      obtain ⟨nx, hnx⟩ : ∃ nx, x.length = nx := ⟨_, rfl⟩
      rw [hx] at hcj rj
      rw [hx, hnx] at d1
      rw [hnx] at hcj
      by_cases hbig : 4000 < nx
      · have HK := As.mk HS.out.1.kp
        clear HS rj hx hnx d0 hnj hlx
        go_wp2
        go_ret
        exact ⟨rfl, HK.out.below⟩
      · obtain ⟨N, hN⟩ : ∃ N, N = nx + 12 := ⟨_, rfl⟩
        obtain ⟨T', hT'⟩ : ∃ T', T' = T + N := ⟨_, rfl⟩
        have hwx : Wf x := by rw [← hx]; exact HW.out _ (List.getElem_mem hlx)
        have HE := As.mk (enc_one hnx hN (HS.out.1.kp.rd_new rj.rd (by simp)) hcj hnj hwx (by omega))
        have HST : As (encs (l.take (k + 1)) = encs (l.take k) ++ fEnc x) := ⟨by rw [encs_step l k hlx, hx]⟩
        have HX4 : As (∀ y ∈ l.take (k + 1), y.length ≤ 4000) := ⟨by
          intro y hy
          rw [take_succ' l k hlx, List.mem_append, List.mem_singleton] at hy
          rcases hy with hy | hy
          · exact HS.out.2 y hy
          · rw [hy, hx, hnx]; omega⟩
        have HFL : As ((fEnc x).length = N) := ⟨by rw [fEnc_len, hnx, hN]⟩
        have HT' : As (T' = T + N ∧ (encs (l.take (k + 1))).length = T') := ⟨hT', by rw [HST.out, List.length_append, HT.out, HFL.out, hT']⟩
        have hN9 : N ≤ 4012 := by omega
        have hkT' : 12 * (k + 1) ≤ T' := by omega
        have HS1 := As.mk HS.out.1
        clear HS rj hx hnx d0 hnj hlx hwx hN hcj hT'
        by_cases hov : 4000 < T'
        all_goals
          go_wp2_with (first
            | (go_at_call 13; refine HE.out.mono ?_; rintro e w1 ⟨A1, c1, rfl, k1, r1, g1, n1⟩; have HR1 := As.mk r1; have HN1 := As.mk n1; have HS2 := As.mk (HS1.out.skip k1); have HO2 : As (w1.ownsRow 0 5 1 (.slice AA T cA) T (iv .u8 (encs (l.take k)))) := ⟨by have h9 := HS2.out.own.1; rwa [HT.out] at h9⟩; clear k1 r1 n1 HE)
            | (at_builtin; refine clone.app8 rfl (.tmp 38) (.tmp 39) rfl (.slice AA T cA) T (iv .u8 (encs (l.take k))) rfl HO2.out A1 N c1 (iv .u8 (fEnc x)) rfl (by rw [iv_len, HFL.out]) HR1.out HN1.out (iv_one _ _) (by omega) ?_; intro v2 w2 o2 k2 a2; have hs2 := HS2.out.app HT.out HFL.out o2 k2 a2; rw [← HST.out] at hs2; have o2' := hs2.own.1; rw [HT'.out.2] at o2'; obtain ⟨A2, c2, rfl, _, _, _, _⟩ := own_rd o2'; have HS3 := As.mk hs2; have HO3 : As (w2.ownsRow 0 3 1 (.slice AE k cE) k (iv .i64 (endsE l k))) := ⟨by have h9 := hs2.ends.1; rwa [endsE_len] at h9⟩; clear o2 k2 a2 hs2 o2')
            | (at_builtin; refine app64_one rfl (.tmp 44) (.tmp 47) rfl (.slice AE k cE) k (iv .i64 (endsE l k)) rfl HO3.out (T' : Int) rfl (by omega) ?_; intro v7 w7 o7 k7 a7; have hs7 := HS3.out.app6 (endsE_len l k) o7 k7 a7; rw [← HT'.out.2, ← endsE_step] at hs7; have o7' := hs7.ends.1; rw [endsE_len] at o7'; obtain ⟨A7, c7, rfl, _, _, _, _⟩ := own_rd o7'; have HS7 := As.mk hs7; clear o7 k7 a7 hs7 o7'))
        · go_ret
          exact ⟨rfl, HS3.out.kp.below⟩
        · go_roundw
          case rel => exact ⟨k + 1, T', c2, c7, A2, A7, by go_num, rfl, rfl, by omega, by omega, hkT', ⟨by have h9 := HS7.out; rw [HT'.out.2] at h9; exact h9, HX4.out⟩, ⟨HT'.out.2⟩⟩
          case measure => simp [intOf]; omega
    · obtain rfl : k = n := by omega
      have htk : l.take k = l := List.take_of_length_le (by rw [HL.out]; exact Nat.le_refl _)
      rw [htk] at HS HT
      have HS1 := As.mk HS.out.1
      have HX4 := As.mk HS.out.2
      clear HS htk
      obtain ⟨q, hq, hq30⟩ := mask30 at_
      obtain ⟨T1, hT1⟩ : ∃ T1 : Nat, T1 = T + 1 := ⟨_, rfl⟩
      have hT1i : (T : Int) + 1 = (T1 : Int) := by omega
      obtain ⟨cut, hcut⟩ : ∃ cut, q % T1 = cut := ⟨_, rfl⟩
      have hcl : cut ≤ T := by have : cut < T1 := by rw [← hcut]; exact Nat.mod_lt _ (by omega)
                               omega
      have hT1n : (T1 : Int) ≠ 0 := by omega
      clear hT1
      obtain ⟨nc, hnc⟩ : ∃ nc, nc = nCut l cut := ⟨_, rfl⟩
      have hnck : nc ≤ k := by have := nCut_le l cut; have := HL.out; omega
      have HNC := As.mk hnc
      obtain ⟨wo, rfl⟩ : ∃ wo, wo = wr := ⟨_, rfl⟩
      have HO : As (wo.ownsRow 0 5 1 (.slice AA T cA) T (iv .u8 (encs l))) := ⟨by have h9 := HS1.out.own.1; rwa [HT.out] at h9⟩
      have HOE : As (wo.ownsRow 0 3 1 (.slice AE k cE) k (iv .i64 (endsE l k))) := ⟨by have h9 := HS1.out.ends.1; rwa [endsE_len] at h9⟩
      have HEND : As (∀ j, j < k → ∃ a, AE = some a ∧ wo.cell? (a.add j) = some (.int .i64 ((encs (l.take (j + 1))).length : Int))) := ⟨by
        intro j hj
        obtain ⟨A', c', hv, _, _, h9, _⟩ := own_rd HOE.out
        cases hv
        exact h9 j _ (endsE_get l k j hj)⟩
      clear hnc
      go_wp2
      go_loopw [11] (fun i w2 => ∃ j : Nat, i = .int .i64 (j : Int) ∧ j ≤ nc ∧ As (w2 = wo)) (fun i _ => nc - (intOf i).toNat)
      case atStart => exact ⟨0, rfl, by omega, ⟨rfl⟩⟩
      case round =>
        obtain ⟨j, rfl, hj, ⟨rfl⟩⟩ := hrel
        by_cases hjl : j < nc
        · obtain ⟨a, rfl, d1⟩ := HEND.out j (by omega)
          obtain ⟨E, hE⟩ : ∃ E, (encs (l.take (j + 1))).length = E := ⟨_, rfl⟩
          have hjk : (j : Int) < (k : Int) := by omega
          have hEc : (E : Int) ≤ (cut : Int) := by
            have := (nCut_iff l cut j (by rw [HL.out]; omega)).2 (by rw [← HNC.out]; exact hjl)
            omega
          rw [hE] at d1
          clear hE
          go_wp2
          go_roundw
          case rel => exact ⟨j + 1, by go_num, by omega, ⟨trivial⟩⟩
          case measure => simp [intOf]; omega
        · obtain rfl : j = nc := by omega
          obtain ⟨Wn, hWn⟩ : ∃ Wn, (encs (l.take j)).length = Wn := ⟨_, rfl⟩
          obtain ⟨A0, c0, hv0, hTc, _, hr0, hn0⟩ := own_rd HO.out
          cases hv0
          have hslA := slice_head ht8 hz8 AA T cA cut (by omega) hn0
          have hslL := slice_head htR hzR A k c j (by omega) HNA.out
          have hlj : (l.take j).length = j := by rw [List.length_take, HL.out]; omega
          have h48 : ∀ x ∈ l, x.length ≤ 1048576 := fun x hx => by have := HX4.out x hx; omega
          have hrc := hr0.take cut
          rw [iv_take] at hrc
          have HSC := As.mk (scan_rd (w := wr) (A := AA) (c := cA) (n := cut) (xs := (encs l).take cut) (by rw [List.length_take, HT.out]; omega) hrc (by omega) ((encs_wf HW.out).take cut) (by omega) (l.take j) Wn j (by rw [fScan_torn l cut h48, ← HNC.out, hWn]) hlj)
          have HROW : As (∀ wX A9 c9, Kp [] w wX → Rs [] wX A9 (l.take j) → Calls Try.prog 20 #[.slice A9 j c9, .slice A j c] wX fun e w' => e = .returned (.bool true) ∧ Kp [] wX w') := ⟨fun wX A9 c9 k9 r9 => by
            have h := rows_any A9 A j c9 j c (l.take j) (l.take j) wX hlj hlj r9 ((HR.out.kp k9 (by simp)).take j) (by omega) (fun x hx => by have := HX4.out x (List.mem_of_mem_take hx); omega)
            rwa [decide_eq_true (rfl : l.take j = l.take j)] at h⟩
          have hcond : (¬ ((j : Int) < (k : Int))) ∨ ∃ a E, AE = some a ∧ wr.cell? (a.add j) = some (.int .i64 (E : Int)) ∧ (cut : Int) < (E : Int) ∧ (j : Int) < (k : Int) := by
            by_cases hjk : j < k
            · obtain ⟨a, ha, hd⟩ := HEND.out j hjk
              refine .inr ⟨a, (encs (l.take (j + 1))).length, ha, hd, ?_, by omega⟩
              have := mt (nCut_iff l cut j (by rw [HL.out]; omega)).1 (by rw [← HNC.out]; omega)
              omega
            · exact .inl (by omega)
          have hTc' : (cut : Int) ≤ (cA : Int) := by omega
          by_cases hj0 : j = 0
          · have hW0 : Wn = 0 := by rw [← hWn, hj0]; rfl
            subst hj0 hW0
            clear hWn hr0 hn0 hlj h48 hrc hT1n HEND
            rcases hcond with hc1 | ⟨a, E, rfl, d1, hc1, hjk⟩
            · go_wp2_with (first
                | (go_at_call 19; refine HSC.out.mono ?_; rintro e w1 ⟨A1, c1, rfl, r1, g1, n1, k1⟩; have HRW1 := As.mk (HROW.out w1 A1 c1 (HS1.out.kp.trans k1 (by simp)) r1); have HK1 := As.mk k1; clear r1 g1 n1 k1 HSC)
                | (go_at_call 20; refine HRW1.out.mono ?_; rintro e w2 ⟨rfl, k2⟩; have HK2 : As (Kp [] wr w2) := ⟨HK1.out.trans k2 (by simp)⟩; clear k2 HRW1)
                | (go_at_call 15; refine (known_any _).mono ?_; rintro e w3 ⟨rfl, k3⟩; have HK3 : As (Kp [] w w3) := ⟨HS1.out.kp.trans (HK2.out.trans k3 (by simp)) (by simp)⟩; clear k3))
              go_ret
              exact ⟨rfl, HK3.out.below⟩
            · rw [add_zero'] at d1
              have h0k : 0 < k := by omega
              go_wp2_with (first
                | (go_at_call 19; refine HSC.out.mono ?_; rintro e w1 ⟨A1, c1, rfl, r1, g1, n1, k1⟩; have HRW1 := As.mk (HROW.out w1 A1 c1 (HS1.out.kp.trans k1 (by simp)) r1); have HK1 := As.mk k1; clear r1 g1 n1 k1 HSC)
                | (go_at_call 20; refine HRW1.out.mono ?_; rintro e w2 ⟨rfl, k2⟩; have HK2 : As (Kp [] wr w2) := ⟨HK1.out.trans k2 (by simp)⟩; clear k2 HRW1)
                | (go_at_call 15; refine (known_any _).mono ?_; rintro e w3 ⟨rfl, k3⟩; have HK3 : As (Kp [] w w3) := ⟨HS1.out.kp.trans (HK2.out.trans k3 (by simp)) (by simp)⟩; clear k3))
              go_ret
              exact ⟨rfl, HK3.out.below⟩
          · obtain ⟨p, hp⟩ : ∃ p, j = p + 1 := ⟨j - 1, by omega⟩
            have hpi : (j : Int) - 1 = (p : Int) := by omega
            have hpk : p < k := by omega
            obtain ⟨aE, rfl, dE⟩ := HEND.out p hpk
            rw [← hp, hWn] at dE
            have HDE := As.mk dE
            clear hWn hr0 hn0 hlj h48 hrc hT1n HEND hp dE
            have hpk' : (p : Int) < (k : Int) := by omega
            have hj0' : (0 : Int) < (j : Int) := by omega
            rcases hcond with hc1 | ⟨a, E, ha, d1, hc1, hjk⟩
            · go_wp2_with (first
                | (go_at_call 19; refine HSC.out.mono ?_; rintro e w1 ⟨A1, c1, rfl, r1, g1, n1, k1⟩; have HRW1 := As.mk (HROW.out w1 A1 c1 (HS1.out.kp.trans k1 (by simp)) r1); have HK1 := As.mk k1; have dE := k1.cell HDE.out (by simp); clear r1 g1 n1 k1 HSC)
                | (go_at_call 20; refine HRW1.out.mono ?_; rintro e w2 ⟨rfl, k2⟩; have HK2 : As (Kp [] wr w2) := ⟨HK1.out.trans k2 (by simp)⟩; clear k2 HRW1)
                | (go_at_call 15; refine (known_any _).mono ?_; rintro e w3 ⟨rfl, k3⟩; have HK3 : As (Kp [] w w3) := ⟨HS1.out.kp.trans (HK2.out.trans k3 (by simp)) (by simp)⟩; clear k3))
              go_ret
              exact ⟨rfl, HK3.out.below⟩
            · cases ha
              go_wp2_with (first
                | (go_at_call 19; refine HSC.out.mono ?_; rintro e w1 ⟨A1, c1, rfl, r1, g1, n1, k1⟩; have HRW1 := As.mk (HROW.out w1 A1 c1 (HS1.out.kp.trans k1 (by simp)) r1); have HK1 := As.mk k1; have dE := k1.cell HDE.out (by simp); clear r1 g1 n1 k1 HSC)
                | (go_at_call 20; refine HRW1.out.mono ?_; rintro e w2 ⟨rfl, k2⟩; have HK2 : As (Kp [] wr w2) := ⟨HK1.out.trans k2 (by simp)⟩; clear k2 HRW1)
                | (go_at_call 15; refine (known_any _).mono ?_; rintro e w3 ⟨rfl, k3⟩; have HK3 : As (Kp [] w w3) := ⟨HS1.out.kp.trans (HK2.out.trans k3 (by simp)) (by simp)⟩; clear k3))
              go_ret
              exact ⟨rfl, HK3.out.below⟩

theorem tears_row (w : World) (A : Option Addr) (n c : Nat) (l : List (List Int)) (hl : l.length = n) (hr : Rs [] w A l) (hc : n ≤ c) (_ : c ≤ 9223372036854775807) (hn : A = none → c = 0)
    (hw : ∀ x ∈ l, x.length ≤ 9223372036854775807 ∧ ∀ y ∈ x, (Lit.int .u8 y).wf = true) (hz : n * 24 ≤ 140737488351232) (at_ : Int) (_ : (Lit.int .i64 at_).wf = true) :
    Calls Try.prog 5 #[.slice A n c, .int .i64 at_] w fun e w' => e = .returned (.bool true) ∧ Below w.heap.size w w' :=
  tears_law A n c l hl at_ w hr hc hn (fun x hx y hy => wf_u8 ((hw x hx).2 y hy)) (by omega)

end Go.Proofs.Ytlknlpiiogmfbaa.haystacklaw8
