/- The walk of OctetSums: the check sum of rows is that of all of them in one; a byte that is another one has another sum. -/
import Derived.Test.YtdafiblehgeddaaKnown1
import Derived.Test.YtdafiblehgeddaaSum
import Derived.Test.YtdafiblehgeddaaHeavy1
import Derived.Test.YtdafiblehgeddaaOpen
import Derived.Test.YtdafiblehgeddaaCuts
import Derived.Test.YtdafiblehgeddaaCrc2
import Derived.Test.YtdafiblehgeddaaJoin
namespace Go.Proofs.Ytdafiblehgeddaa.haystacklaw1
open Go.RowKit H O

structure Sm (w wr : World) (v : Value) (zs : List Int) : Prop where
  kp : Kp [] w wr
  own : Own 5 .u8 wr w.heap.size v zs
theorem flat_wf {l : List (List Int)} (h : ∀ x ∈ l, ∀ y ∈ x, 0 ≤ y ∧ y < 256) : Wf l.flatten := by
  intro y hy
  obtain ⟨x, hx, hyx⟩ := List.mem_flatten.1 hy
  exact h x hx y hyx

set_option maxHeartbeats 16000000 in
set_option maxRecDepth 100000 in
theorem sums_law (A : Option Addr) (n c : Nat) (l : List (List Int)) (hl : l.length = n) (at_ by_ : Int) (w : World) (hr : Rs [] w A l)
    (hm : n ≤ 4611686018427387904) (hc : n ≤ c) (hwf : ∀ x ∈ l, ∀ y ∈ x, 0 ≤ y ∧ y < 256) (hby : 0 ≤ by_ ∧ by_ < 256) :
    Calls Try.prog 5 #[.slice A n c, .int .i64 at_, .int .u8 by_] w fun e w' => e = .returned (.bool true) ∧ Below w.heap.size w w' := by
  have HV := As.mk (heavy_any A n c l w [] hl hr hm)
  cases hh : heavy l with
  | true =>
    rw [hh] at HV
    clear hh
    go_enter Try.func5, Try.ntmps5
    go_wp2_with (go_at_call 21; refine HV.out.mono ?_; rintro e w1 ⟨rfl, n1, rfl⟩)
    go_ret
    exact ⟨rfl, ((Kp.refl [] w).drewN _).below⟩
  | false =>
    rw [hh] at HV
    obtain ⟨hb1, hb2⟩ := heavy_le hh
    have HB := As.mk hb1
    have HR := As.mk hr
    have HL := As.mk hl
    have HWF := As.mk hwf
    have HX := As.mk hb2
    have HBY := As.mk hby
    obtain ⟨T, hT⟩ : ∃ T, l.flatten.length = T := ⟨_, rfl⟩
    have hT4 : T ≤ 4000 := by omega
    have HT := As.mk hT
    have hn : n ≤ 1334 := by omega
    clear hh hb1 hb2 hr hl hwf hby hT
    go_enter Try.func5, Try.ntmps5
    go_wp2_with (go_at_call 21; refine HV.out.mono ?_; rintro e w0 ⟨rfl, n1, hw0⟩; have HK0 : As (Kp [] w w0) := ⟨by rw [hw0]; exact (Kp.refl [] w).drewN _⟩; clear hw0; have HJ := As.mk (joins.ojoin_any A n c l w0 HL.out (HR.out.kp HK0.out (by simp)) hc (fun x hx => HWF.out x hx) (by rw [HT.out]; omega) (by omega)))
    go_wp2_with (go_at_call 22; refine HJ.out.mono ?_; rintro e w1 ⟨v7, rfl, K1, O7⟩; obtain ⟨A7, c7, rfl, hc7, hc7', R7, N7⟩ := joins.post_rd O7 T HT.out (by omega); have HK1 : As (Kp [] w w1) := ⟨HK0.out.trans K1 (by simp)⟩; have HR7 := As.mk R7; clear K1 O7 R7 N7)
    go_loopw [8, 9] (fun want i wr => ∃ k : Nat, i = .int .i64 (k : Int) ∧ k ≤ n ∧ As (Sm w1 wr want (l.take k).flatten)) (fun _ i _ => n - (intOf i).toNat)
    case atStart => exact ⟨0, rfl, by omega, ⟨Kp.refl _ _, by simpa using Own.nil _ _ _ _⟩⟩
    case round =>
      obtain ⟨k, rfl, hk, HY⟩ := hrel
      by_cases hlt : k < n
      · have hlx : k < l.length := by rw [HL.out]; exact hlt
        obtain ⟨a, Aj, cj, rfl, _, d0, hcj, hnilj, hrj⟩ := HR.out k hlx
        have hwr : Kp [] w wr := HK1.out.trans HY.out.kp (by simp)
        have hst := joins.flat_step l k hlx
        obtain ⟨x, hx⟩ : ∃ x, x = l[k] := ⟨_, rfl⟩
        rw [← hx] at d0 hcj hrj hst
        obtain ⟨len, hlen⟩ : ∃ len, x.length = len := ⟨_, rfl⟩
        rw [hlen] at d0 hcj
        obtain ⟨mz, hmz⟩ : ∃ mz, (l.take k).flatten.length = mz := ⟨_, rfl⟩
        have hbd : mz + len ≤ 4000 := by have h1 := joins.flat_le l (k + 1); rw [hst, List.length_append, hmz, hlen, HT.out] at h1; omega
        have d1 := hwr.cell d0 (by simp)
        have HRJ := As.mk (hwr.rd hrj.rd (fun _ _ => by simp))
        have HLEN := As.mk hlen
        have HMZ := As.mk hmz
        have HST := As.mk hst
        have HNJ := As.mk hnilj
        have HOM := As.mk HY.out.own.1
        rw [hmz] at HOM
        clear d0 hrj hst hx hlen hmz hnilj hwr
        go_wp2_with (at_builtin; refine clone.app8 rfl (.tmp 21) (.tmp 25) rfl u8 mz (iv .u8 (l.take k).flatten) rfl HOM.out Aj len cj (iv .u8 x) rfl (by rw [iv_len, HLEN.out]) HRJ.out HNJ.out (iv_one _ _) (by omega) ?_; intro v6 w6 o6 k6 a6; have HY6 : As (Sm w1 w6 v6 ((l.take k).flatten ++ x)) := ⟨HY.out.kp.row k6 (fun y hy => .inr (HY.out.own.2 y hy)), ⟨by simpa [iv, HMZ.out, HLEN.out] using o6, a6.ge HY.out.kp.size HY.out.own.2⟩⟩; clear o6 k6 a6)
        go_roundw
        case rel => exact ⟨k + 1, by go_num, by omega, ⟨by rw [HST.out]; exact HY6.out⟩⟩
        case measure => simp [intOf]; omega
      · obtain rfl : k = n := by omega
        have e : l.take k = l := List.take_of_length_le (by rw [HL.out]; omega)
        rw [e] at HY
        obtain ⟨wo, rfl⟩ : ∃ wo, wo = wr := ⟨_, rfl⟩
        obtain ⟨W, hW⟩ : ∃ W, W = l.flatten := ⟨_, rfl⟩
        have HWW : As (Wf W) := ⟨by rw [hW]; exact flat_wf HWF.out⟩
        have HK : As (Kp [] w wo) := ⟨HK1.out.trans HY.out.kp (by simp)⟩
        have HS0 : As (Calls Try.prog 23 #[.slice A k c] wo fun e w' => e = .returned (.int .u32 (crc W)) ∧ w' = wo) := ⟨by
          rw [hW]; exact sum.sum_any A k c l [] wo HL.out (HR.out.kp HK.out (by simp)) (by omega) (fun x hx => by have := HX.out x hx; omega) HWF.out⟩
        have HW7 := HR7
        rw [← hW] at HY HT HR7
        have O8 := HY.out.own.1
        rw [HT.out] at O8
        obtain ⟨A8, c8, rfl, hc8, _, R8, N8⟩ := own_rd O8
        have HF8 : As (0 < T → ∃ g8, A8 = some ⟨g8, 0, none⟩) := ⟨fun h => by obtain ⟨g8, cap, h8, _⟩ := own_form O8 h; cases h8; exact ⟨g8, rfl⟩⟩
        have HO8 := As.mk O8
        have HR8 := As.mk R8
        have HN8 := As.mk N8
        have HLO := As.mk HY.out.own.2
        have HKO := As.mk HY.out.kp
        obtain ⟨s, hs⟩ : ∃ s, s = crc W := ⟨_, rfl⟩
        have HSV := As.mk hs
        rw [← hs] at HS0
        clear e hW hs HW7 HY O8 R8 N8
        by_cases hT0 : T = 0
        · have hT0' : ¬ (0 : Int) < (T : Int) := by omega
          have hT0b : decide ((0 : Int) < (T : Int)) = false := decide_eq_false hT0'
          clear hT0
          go_wp2_with (go_at_call 23; refine HS0.out.mono ?_; rintro e w2 ⟨rfl, rfl⟩; have HSM := As.mk (same_any A7 A8 T c7 T c8 W W w2 HT.out HT.out (HKO.out.rd_new HR7.out (by simp)) HR8.out (by rw [HT.out]; omega)); clear HS0)
          go_wp2_with (go_at_call 14; refine HSM.out.mono ?_; rintro e w4 ⟨rfl, n4, hw4⟩; have HK4 : As (Kp [] w2 w4) := ⟨by rw [hw4]; exact (Kp.refl [] _).drewN _⟩; have HRS := As.mk (sum.ref_any A8 T c8 W w4 HT.out (HK4.out.rd HR8.out (fun _ _ => by simp)) (by omega) HWW.out); rw [← HSV.out] at HRS; clear hw4)
          go_wp2_with (go_at_call 24; refine HRS.out.mono ?_; rintro e w5 ⟨rfl, n5, hw5⟩; have HK5 : As (Kp [] w2 w5) := ⟨by rw [hw5]; exact HK4.out.drewN _⟩; have HS1 : As (Calls Try.prog 23 #[.slice (some ⟨w5.heap.size, 0, none⟩) 1 1] (w5.alloc (.cells #[.slice A8 T c8] 23)) fun e w' => e = .returned (.int .u32 s) ∧ w' = w5.alloc (.cells #[.slice A8 T c8] 23)) := ⟨by have h9 := sum.sum_any (some ⟨w5.heap.size, 0, none⟩) 1 1 [W] [] _ rfl (rs_cell w5 A8 W T c8 HT.out hc8 HN8.out 23 (RdS.new HR8.out HK5.out (by simp)) (by simp)) (by decide) (by intro x hx; simp only [List.mem_singleton] at hx; subst hx; rw [HT.out]; omega) (by intro x hx; simp only [List.mem_singleton] at hx; subst hx; exact HWW.out); rw [show [W].flatten = W from by simp, ← HSV.out] at h9; exact h9⟩; clear hw5)
          go_wp2_with (first
            | (go_at_call 23; refine HS1.out.mono ?_; rintro e w6 ⟨rfl, rfl⟩)
            | (go_at_call 11; refine (known_any _).mono ?_; rintro e w7 ⟨rfl, hk7⟩; have HK7 : As (Kp [] w w7) := ⟨((HK.out.trans HK5.out (by simp)).alloc _).trans hk7 (by simp)⟩; clear hk7))
          go_ret
          exact ⟨rfl, HK7.out.below⟩
        · have hT0' : (0 : Int) < (T : Int) := by omega
          have hT0b : decide ((0 : Int) < (T : Int)) = true := decide_eq_true hT0'
          by_cases hb0 : by_ = 0
          · subst hb0
            go_wp2_with (go_at_call 23; refine HS0.out.mono ?_; rintro e w2 ⟨rfl, rfl⟩; have HSM := As.mk (same_any A7 A8 T c7 T c8 W W w2 HT.out HT.out (HKO.out.rd_new HR7.out (by simp)) HR8.out (by rw [HT.out]; omega)); clear HS0)
            go_wp2_with (go_at_call 14; refine HSM.out.mono ?_; rintro e w4 ⟨rfl, n4, hw4⟩; have HK4 : As (Kp [] w2 w4) := ⟨by rw [hw4]; exact (Kp.refl [] _).drewN _⟩; have HRS := As.mk (sum.ref_any A8 T c8 W w4 HT.out (HK4.out.rd HR8.out (fun _ _ => by simp)) (by omega) HWW.out); rw [← HSV.out] at HRS; clear hw4)
            go_wp2_with (go_at_call 24; refine HRS.out.mono ?_; rintro e w5 ⟨rfl, n5, hw5⟩; have HK5 : As (Kp [] w2 w5) := ⟨by rw [hw5]; exact HK4.out.drewN _⟩; have HS1 : As (Calls Try.prog 23 #[.slice (some ⟨w5.heap.size, 0, none⟩) 1 1] (w5.alloc (.cells #[.slice A8 T c8] 23)) fun e w' => e = .returned (.int .u32 s) ∧ w' = w5.alloc (.cells #[.slice A8 T c8] 23)) := ⟨by have h9 := sum.sum_any (some ⟨w5.heap.size, 0, none⟩) 1 1 [W] [] _ rfl (rs_cell w5 A8 W T c8 HT.out hc8 HN8.out 23 (RdS.new HR8.out HK5.out (by simp)) (by simp)) (by decide) (by intro x hx; simp only [List.mem_singleton] at hx; subst hx; rw [HT.out]; omega) (by intro x hx; simp only [List.mem_singleton] at hx; subst hx; exact HWW.out); rw [show [W].flatten = W from by simp, ← HSV.out] at h9; exact h9⟩; clear hw5)
            go_wp2_with (first
              | (go_at_call 23; refine HS1.out.mono ?_; rintro e w6 ⟨rfl, rfl⟩)
              | (go_at_call 11; refine (known_any _).mono ?_; rintro e w7 ⟨rfl, hk7⟩; have HK7 : As (Kp [] w w7) := ⟨((HK.out.trans HK5.out (by simp)).alloc _).trans hk7 (by simp)⟩; clear hk7))
            go_ret
            exact ⟨rfl, HK7.out.below⟩
          · have hb0' : (by_ == 0) = false := by simpa using hb0
            have hb0b : (by_ != 0) = true := by simpa using hb0
            obtain ⟨g8, rfl⟩ := HF8.out (by omega)
            obtain ⟨q, hq, hq30⟩ := mask30 at_
            obtain ⟨cut, hcut⟩ : ∃ cut, q % T = cut := ⟨_, rfl⟩
            have hcl : cut < T := by rw [← hcut]; exact Nat.mod_lt _ (by omega)
            have hcW : cut < W.length := by rw [HT.out]; exact hcl
            have hti : (T : Int) ≠ 0 := by omega
            obtain ⟨y, hy⟩ : ∃ y, W[cut] = y := ⟨_, rfl⟩
            have hyw := HWW.out W[cut] (List.getElem_mem hcW)
            obtain ⟨z, hz⟩ : ∃ z, bits .xor .u8 y by_ = z := ⟨_, rfl⟩
            have hxor := xor_u8 W[cut] by_ hyw HBY.out hb0
            have hcs := crc_set (z := z) hcW hyw (by rw [← hz, ← hy]; exact hxor.1) (by rw [← hz, ← hy]; exact hxor.2)
            rw [hy, hz] at hxor
            obtain ⟨s2, hs2⟩ : ∃ s2, s2 = crc (W.set cut z) := ⟨_, rfl⟩
            rw [← hs2, ← HSV.out] at hcs
            have hcsb : (s2 == s) = false := by simpa using hcs
            have HZV := As.mk hxor
            have HYV := As.mk hy
            have HS2V := As.mk hs2
            clear hxor hy hs2 hyw
            go_wp2_with (go_at_call 23; refine HS0.out.mono ?_; rintro e w2 ⟨rfl, rfl⟩; have HSM := As.mk (same_any A7 (some ⟨g8, 0, none⟩) T c7 T c8 W W w2 HT.out HT.out (HKO.out.rd_new HR7.out (by simp)) HR8.out (by rw [HT.out]; omega)); clear HS0)
            go_wp2_with (go_at_call 14; refine HSM.out.mono ?_; rintro e w4 ⟨rfl, n4, hw4⟩; have HK4 : As (Kp [] w2 w4) := ⟨by rw [hw4]; exact (Kp.refl [] _).drewN _⟩; have HRS := As.mk (sum.ref_any (some ⟨g8, 0, none⟩) T c8 W w4 HT.out (HK4.out.rd HR8.out (fun _ _ => by simp)) (by omega) HWW.out); rw [← HSV.out] at HRS; clear hw4)
            go_wp2_with (go_at_call 24; refine HRS.out.mono ?_; rintro e w5 ⟨rfl, n5, hw5⟩; have HK5 : As (Kp [] w2 w5) := ⟨by rw [hw5]; exact HK4.out.drewN _⟩; have HS1 : As (Calls Try.prog 23 #[.slice (some ⟨w5.heap.size, 0, none⟩) 1 1] (w5.alloc (.cells #[.slice (some ⟨g8, 0, none⟩) T c8] 23)) fun e w' => e = .returned (.int .u32 s) ∧ w' = w5.alloc (.cells #[.slice (some ⟨g8, 0, none⟩) T c8] 23)) := ⟨by have h9 := sum.sum_any (some ⟨w5.heap.size, 0, none⟩) 1 1 [W] [] _ rfl (rs_cell w5 (some ⟨g8, 0, none⟩) W T c8 HT.out hc8 (by simp) 23 (RdS.new HR8.out HK5.out (by simp)) (by simp)) (by decide) (by intro x hx; simp only [List.mem_singleton] at hx; subst hx; rw [HT.out]; omega) (by intro x hx; simp only [List.mem_singleton] at hx; subst hx; exact HWW.out); rw [show [W].flatten = W from by simp, ← HSV.out] at h9; exact h9⟩; clear hw5)
            go_wp2_with (go_at_call 23; refine HS1.out.mono ?_; rintro e w6 ⟨rfl, hw6⟩; have HK6 : As (Kp [] w2 w6) := ⟨by rw [hw6]; exact HK5.out.alloc _⟩; have HO6 := HK6.out.own HO8.out (by simp); obtain ⟨-, fr, st⟩ := own_store HO6 cut hcl (.int .u8 z); have hd : w6.cell? ⟨g8, cut, none⟩ = some (.int .u8 y) := (by obtain ⟨A9, c9, hv9, _, _, h9, _⟩ := own_rd HO6; cases hv9; obtain ⟨a9, ha9, hc9⟩ := h9 cut _ (iv_get .u8 W cut (by rw [HT.out]; exact hcl)); cases ha9; rw [Addr.add_lit, Nat.zero_add] at hc9; rw [hc9, HYV.out]); have hfr := fr; have HST := As.mk st; clear hw6 HO6 fr st HS1)
            have HS2 : As (Calls Try.prog 23 #[.slice (some ⟨w6.heap.size, 0, none⟩) 1 1] ((w6.setCell ⟨g8, cut, none⟩ (.int .u8 z)).alloc (.cells #[.slice (some ⟨g8, 0, none⟩) T c8] 23)) fun e w' => e = .returned (.int .u32 s2) ∧ w' = (w6.setCell ⟨g8, cut, none⟩ (.int .u8 z)).alloc (.cells #[.slice (some ⟨g8, 0, none⟩) T c8] 23)) := ⟨by
              have hsl : (w6.setCell ⟨g8, cut, none⟩ (.int .u8 z)).heap.size = w6.heap.size := by simp
              have hrd : Rd (w6.setCell ⟨g8, cut, none⟩ (.int .u8 z)) (some ⟨g8, 0, none⟩) (iv .u8 (W.set cut z)) := by
                obtain ⟨A9, c9, hv9, _, _, h9, _⟩ := own_rd HST.out
                cases hv9
                have e9 : (iv .u8 W).set cut (.int .u8 z) = iv .u8 (W.set cut z) := by simp [iv, List.map_set]
                rw [e9] at h9
                exact h9
              have h9 := sum.sum_any (some ⟨w6.heap.size, 0, none⟩) 1 1 [W.set cut z] [] ((w6.setCell ⟨g8, cut, none⟩ (.int .u8 z)).alloc (.cells #[.slice (some ⟨g8, 0, none⟩) T c8] 23)) rfl (by
                have h8 := rs_cell (S := []) (w6.setCell ⟨g8, cut, none⟩ (.int .u8 z)) (some ⟨g8, 0, none⟩) (W.set cut z) T c8 (by rw [List.length_set]; exact HT.out) hc8 (by simp) 23 (RdS.new hrd (Kp.refl _ _) (by simp)) (by simp)
                rw [hsl] at h8
                exact h8) (by decide) (by intro x hx; simp only [List.mem_singleton] at hx; subst hx; rw [List.length_set, HT.out]; omega) (by
                intro x hx
                simp only [List.mem_singleton] at hx
                subst hx
                intro v hv
                rcases List.mem_or_eq_of_mem_set hv with h | h
                · exact HWW.out v h
                · rw [h]; exact HZV.out.1)
              rw [show [W.set cut z].flatten = W.set cut z from by simp, ← HS2V.out] at h9
              exact h9⟩
            go_wp2_with (first
              | (go_at_call 23; refine HS2.out.mono ?_; rintro e w8 ⟨rfl, hw8⟩; have HK8 : As (Kp [] w w8) := ⟨by rw [hw8]; exact (((HK.out.trans HK6.out (by simp)).setCell (.inr (by have h1 := HLO.out g8 rfl; have h2 := HK1.out.size; show w.heap.size ≤ g8; omega)) _).alloc _)⟩; clear hw8)
              | (go_at_call 11; refine (known_any _).mono ?_; rintro e w9 ⟨rfl, hk9⟩; have HK9 : As (Kp [] w w9) := ⟨HK8.out.trans hk9 (by simp)⟩; clear hk9))
            go_ret
            exact ⟨rfl, HK9.out.below⟩

theorem sums_row (w : World) (A : Option Addr) (n c : Nat) (l : List (List Int)) (hl : l.length = n) (hr : Rs [] w A l) (hc : n ≤ c) (_hm : c ≤ 9223372036854775807) (_hn : A = none → c = 0)
    (hw : ∀ x ∈ l, x.length ≤ 9223372036854775807 ∧ ∀ y ∈ x, (Lit.int .u8 y).wf = true) (hz : n * 24 ≤ 140737488351232) (at_ : Int) (_hat : (Lit.int .i64 at_).wf = true) (by_ : Int) (hby : (Lit.int .u8 by_).wf = true) :
    Calls Try.prog 5 #[.slice A n c, .int .i64 at_, .int .u8 by_] w fun e w' => e = .returned (.bool true) ∧ Below w.heap.size w w' :=
  sums_law A n c l hl at_ by_ w hr (by omega) hc (fun x hx y hy => wf_u8 ((hw x hx).2 y hy)) (wf_u8 hby)

end Go.Proofs.Ytdafiblehgeddaa.haystacklaw1
