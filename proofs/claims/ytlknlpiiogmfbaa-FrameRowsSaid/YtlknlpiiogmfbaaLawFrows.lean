/- The walk of FrameRows: rows that are written one behind the other are read as they were, whatever stands behind them. -/
import Derived.Test.YtlknlpiiogmfbaaKnown8
import Derived.Test.YtlknlpiiogmfbaaFrameR
import Derived.Test.YtlknlpiiogmfbaaRowsEq8
import Derived.Test.YtlknlpiiogmfbaaOpen
namespace Go.Proofs.Ytlknlpiiogmfbaa.haystacklaw8
open Go.RowKit H O joins frame

set_option maxHeartbeats 8000000 in
set_option maxRecDepth 100000 in
theorem frows_law (A : Option Addr) (n c : Nat) (l : List (List Int)) (hn : l.length = n) (B : Option Addr) (m d : Nat) (r : List Int) (hm : r.length = m) (w : World) (hr : Rs [] w A l) (hr2 : Rd w B (iv .u8 r))
    (hc : n ≤ c) (hnA : A = none → c = 0) (hnB : B = none → d = 0) (hw : ∀ x ∈ l, Wf x) (hw2 : Wf r) (hb : n ≤ 4611686018427387904) :
    Calls Try.prog 6 #[.slice A n c, .slice B m d] w fun e w' => e = .returned (.bool true) ∧ Below w.heap.size w w' := by
  have HR := As.mk hr
  have HR2 := As.mk hr2
  have HL := As.mk hn
  have HM := As.mk hm
  have HW := As.mk hw
  have HW2 := As.mk hw2
  have HNA := As.mk hnA
  have HNB := As.mk hnB
  clear hr hr2 hn hm hw hw2 hnA hnB
  go_enter Try.func6, Try.ntmps6
  go_wp2
  go_loopw [5, 6] (fun s i wr => ∃ (k T cA : Nat) (AA : Option Addr), i = .int .i64 (k : Int) ∧ s = .slice AA T cA ∧ k ≤ n ∧ T ≤ 4000 ∧ 12 * k ≤ T ∧ As (Acc w wr (.slice AA T cA) T (encs (l.take k)) ∧ ∀ x ∈ l.take k, x.length ≤ 4000)) (fun _ i _ => n - (intOf i).toNat)
  case atStart => exact ⟨0, 0, 0, none, rfl, rfl, by omega, by omega, by omega, ⟨Acc.nil w, by simp⟩⟩
  case round =>
    obtain ⟨k, T, cA, AA, rfl, rfl, hk, hT, hkT, HS⟩ := hrel
    by_cases hlt : k < n
    · have hlx : k < l.length := by rw [HL.out]; exact hlt
      obtain ⟨a, Aj, cj, rfl, -, d0, hcj, hnj, rj⟩ := HR.out k hlx
      have d1 := HS.out.1.kp.cell d0 (by simp)
      obtain ⟨x, hx⟩ : ∃ x, l[k] = x := ⟨_, rfl⟩
      obtain ⟨nx, hnx⟩ : ∃ nx, x.length = nx := ⟨_, rfl⟩
      rw [hx] at hcj rj
      rw [hx, hnx] at d1
      rw [hnx] at hcj
      by_cases hbig : 4000 < nx
      · have HK := As.mk HS.out.1.kp
        clear HS rj hx hnx d0 hnj hlx
        go_wp2
        go_ret
        exact ⟨rfl, HK.out.below⟩
      · obtain ⟨N, hN⟩ : ∃ N, N = nx + 12 := ⟨_, rfl⟩
        obtain ⟨T', hT'⟩ : ∃ T', T' = T + N := ⟨_, rfl⟩
        have hwx : Wf x := by rw [← hx]; exact HW.out _ (List.getElem_mem hlx)
        have HE := As.mk (enc_one hnx hN (HS.out.1.kp.rd_new rj.rd (by simp)) hcj hnj hwx (by omega))
        have HST : As (encs (l.take (k + 1)) = encs (l.take k) ++ fEnc x) := ⟨by rw [encs_step l k hlx, hx]⟩
        have HX4 : As (∀ y ∈ l.take (k + 1), y.length ≤ 4000) := ⟨by
          intro y hy
          rw [take_succ' l k hlx, List.mem_append, List.mem_singleton] at hy
          rcases hy with hy | hy
          · exact HS.out.2 y hy
          · rw [hy, hx, hnx]; omega⟩
        have HFL : As ((fEnc x).length = N) := ⟨by rw [fEnc_len, hnx, hN]⟩
        have HT' := As.mk hT'
        have hN9 : N ≤ 4012 := by omega
        have hkT' : 12 * (k + 1) ≤ T' := by omega
        have HS1 := As.mk HS.out.1
        clear HS rj hx hnx d0 hnj hlx hwx hN hcj hT'
        by_cases hov : 4000 < T'
        all_goals
          go_wp2_with (first
            | (go_at_call 13; refine HE.out.mono ?_; rintro e w1 ⟨A1, c1, rfl, k1, r1, g1, n1⟩; have HR1 := As.mk r1; have HN1 := As.mk n1; have HS2 := As.mk (HS1.out.keep k1); clear k1 r1 n1 HE)
            | (at_builtin; refine clone.app8 rfl (.tmp 36) (.tmp 37) rfl (.slice AA T cA) T (iv .u8 (encs (l.take k))) rfl HS2.out.own A1 N c1 (iv .u8 (fEnc x)) rfl (by rw [iv_len, HFL.out]) HR1.out HN1.out (iv_one _ _) (by omega) ?_; intro v2 w2 o2 k2 a2; have hs2 := HS2.out.more o2 k2 a2 HT'.out; obtain ⟨A2, c2, rfl, _, _, _, _⟩ := own_rd hs2.own; have HS3 := As.mk hs2; clear o2 k2 a2 hs2))
        · go_ret
          exact ⟨rfl, HS3.out.kp.below⟩
        · go_roundw
          case rel => exact ⟨k + 1, T', c2, A2, by go_num, rfl, by omega, by omega, hkT', ⟨by rw [HST.out]; exact HS3.out, HX4.out⟩⟩
          case measure => simp [intOf]; omega
    · obtain rfl : k = n := by omega
      have htk : l.take k = l := List.take_of_length_le (by rw [HL.out]; exact Nat.le_refl _)
      rw [htk] at HS
      have HS1 := As.mk HS.out.1
      have HX4 := As.mk HS.out.2
      clear HS htk
      by_cases hj : 4000 < m
      · go_wp2
        go_ret
        exact ⟨rfl, HS1.out.kp.below⟩
      · obtain ⟨A0, c0, hv0, hTc, _, hr0, hn0⟩ := own_rd HS1.out.own
        cases hv0
        obtain ⟨Y, hY⟩ : ∃ Y, Y = encs l ++ r := ⟨_, rfl⟩
        obtain ⟨T2, hT2⟩ : ∃ T2, T2 = T + m := ⟨_, rfl⟩
        obtain ⟨m2, hm2⟩ : ∃ m2, m2 = T + (fScan r).2 := ⟨_, rfl⟩
        obtain ⟨M, hM⟩ : ∃ M, (l ++ (fScan r).1).length = M := ⟨_, rfl⟩
        have hwE : Wf (encs l) := encs_wf HW.out
        have hlE := HS1.out.len
        have h48 : ∀ x ∈ l, x.length ≤ 1048576 := fun x hx => by have := HX4.out x hx; omega
        have HSC := As.mk (scan_rd hlE hr0 hTc hwE (by omega) l T k (by rw [fScan_all l h48, hlE]) HL.out)
        have HSC2 : As (∀ wX A9 c9, Rd wX A9 (iv .u8 Y) → T2 ≤ c9 → _) := ⟨fun wX A9 c9 r9 g9 => scan_rd (w := wX) (A := A9) (c := c9) (n := T2) (xs := Y) (by rw [hY, List.length_append, hlE, HM.out, hT2]) r9 g9 (by rw [hY]; exact wf_app hwE HW2.out) (by omega) (l ++ (fScan r).1) m2 M (by rw [hY, fScan_encs l r h48, hlE, hm2]) hM⟩
        have HROW : As (∀ wX A9 c9, Kp [] w wX → Rs [] wX A9 l → Calls Try.prog 20 #[.slice A9 k c9, .slice A k c] wX fun e w' => e = .returned (.bool true) ∧ Kp [] wX w') := ⟨fun wX A9 c9 k9 r9 => by
          have h := rows_any A9 A k c9 k c l l wX HL.out HL.out r9 (HR.out.kp k9 (by simp)) hb (fun x hx => by have := HX4.out x hx; omega)
          rwa [decide_eq_true (rfl : l = l)] at h⟩
        have hm2' : (T : Int) ≤ (m2 : Int) := by omega
        have hM' : (k : Int) ≤ (M : Int) := by
          have h9 : l.length ≤ M := by rw [← hM, List.length_append]; omega
          have := HL.out
          omega
        have HYV := As.mk hY
        have HT2 := As.mk hT2
        have HR0 := As.mk hr0
        have HN0 := As.mk hn0
        have HKM : As (k ≤ M) := ⟨by omega⟩
        clear hr0 hY hT2 hm2 hM hwE hlE h48 hn0
        go_wp2_with (first
          | (go_at_call 19; refine HSC.out.mono ?_; rintro e w1 ⟨A1, c1, rfl, r1, g1, n1, k1⟩; have HK1 := As.mk k1; have HRW1 := As.mk (HROW.out w1 A1 c1 (HS1.out.kp.trans k1 (by simp)) r1); clear r1 g1 n1 k1 HSC)
          | (go_at_call 20; refine HRW1.out.mono ?_; rintro e w2 ⟨rfl, k2⟩; have HK2 : As (Kp [] wr w2) := ⟨HK1.out.trans k2 (by simp)⟩; have HK2' : As (Kp [] w w2) := ⟨HS1.out.kp.trans HK2.out (by simp)⟩; clear k2 HRW1)
          | (at_builtin; refine clone.app8 rfl (.tmp 63) (.tmp 64) rfl (.slice A3 T c3) T (iv .u8 (encs l)) rfl HS3.out.own B m d (iv .u8 r) rfl (by rw [iv_len, HM.out]) (HS3.out.kp.rd_new HR2.out (by simp)) HNB.out (iv_one _ _) (by omega) ?_; intro v4 w4 o4 k4 a4; have hs4 := HS3.out.more o4 k4 a4 HT2.out; rw [← HYV.out] at hs4; obtain ⟨A4, c4, rfl, hc4, _, r4, _⟩ := own_rd hs4.own; have HS4 := As.mk hs4; have HSC4 := As.mk (HSC2.out w4 A4 c4 r4 hc4); clear o4 k4 a4 hs4 r4)
          | (at_builtin; refine clone.app8 rfl (.tmp 61) (.tmp 62) rfl (.slice (some ⟨w2.heap.size, 0, none⟩) 0 0) 0 [] rfl (Acc.empty HK2'.out).own AA T cA (iv .u8 (encs l)) rfl (by rw [iv_len]; exact HS1.out.len) (((HK2.out.alloc _)).rd HR0.out (fun _ _ => by simp)) HN0.out (iv_one _ _) (by omega) ?_; intro v3 w3 o3 k3 a3; have hs3 := (Acc.empty HK2'.out).more (X := []) o3 k3 a3 (Nat.zero_add T).symm; rw [List.nil_append] at hs3; obtain ⟨A3, c3, rfl, _, _, _, _⟩ := own_rd hs3.own; have HS3 := As.mk hs3; clear o3 k3 a3 hs3))
        go_wp2_with (go_at_call 19; refine HSC4.out.mono ?_; rintro e w5 ⟨A5, c5, rfl, r5, g5, n5, k5⟩; have HK5 : As (Kp [] w w5) := ⟨HS4.out.kp.trans k5 (by simp)⟩; have hsl := slice_head htR hzR A5 M c5 k (by have := HKM.out; omega) n5; have HRW5 := As.mk (HROW.out w5 A5 c5 HK5.out r5.pre); clear r5 n5 k5 HSC4)
        go_wp2_with (first
          | (go_at_call 20; refine HRW5.out.mono ?_; rintro e w6 ⟨rfl, k6⟩; have HK6 : As (Kp [] w w6) := ⟨HK5.out.trans k6 (by simp)⟩; clear k6 HRW5)
          | (go_at_call 15; refine (known_any _).mono ?_; rintro e w7 ⟨rfl, k7⟩; have HK7 : As (Kp [] w w7) := ⟨HK6.out.trans k7 (by simp)⟩; clear k7))
        go_ret
        exact ⟨rfl, HK7.out.below⟩

theorem frows_row (w : World) (A : Option Addr) (n c : Nat) (l : List (List Int)) (hl : l.length = n) (hr : Rs [] w A l) (hc : n ≤ c) (_ : c ≤ 9223372036854775807) (hn : A = none → c = 0)
    (hw : ∀ x ∈ l, x.length ≤ 9223372036854775807 ∧ ∀ y ∈ x, (Lit.int .u8 y).wf = true) (hz : n * 24 ≤ 140737488351232)
    (B : Option Addr) (m d : Nat) (r : List Int) (hm : r.length = m) (hr2 : Rd w B (iv .u8 r)) (_ : m ≤ d) (_ : d ≤ 9223372036854775807) (hnB : B = none → d = 0) (hw2 : ∀ y ∈ r, (Lit.int .u8 y).wf = true) (_ : m * 1 ≤ 140737488351232) :
    Calls Try.prog 6 #[.slice A n c, .slice B m d] w fun e w' => e = .returned (.bool true) ∧ Below w.heap.size w w' :=
  frows_law A n c l hl B m d r hm w hr hr2 hc hn hnB (fun x hx y hy => wf_u8 ((hw x hx).2 y hy)) (fun x hx => wf_u8 (hw2 x hx)) (by omega)

end Go.Proofs.Ytlknlpiiogmfbaa.haystacklaw8
