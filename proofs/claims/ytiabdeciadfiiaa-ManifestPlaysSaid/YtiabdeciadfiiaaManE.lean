/- Package manifest: does, of a Move. -/
import Derived.Test.YtiabdeciadfiiaaManC
namespace Go.Proofs.Ytiabdeciadfiiaa.man
open Go.RowKit H O opk

set_option maxHeartbeats 8000000 in
set_option maxRecDepth 100000 in
theorem does_two (T : List Nat) (lo b : Nat) (g : Option Nat) (ver : Nat) (sh : List (List Int)) (done : Int) (A : Option Addr) (n c : Nat) (xs : List Int) (w : World) (hM : MSt T lo b g ver sh done w) (hok : MapOk ver sh) (hlo : lo ≤ w.heap.size) (hT : ∀ x ∈ T, x < w.heap.size)
    (hn : xs.length = n) (h0 : Rd w A (iv .u8 xs)) (hnil : A = none → c = 0) (hb : n ≤ 140737488351232) (hw : Wf xs) (s1 : Option (List Int)) (h0n : stNum (some xs) = (2, s1)) :
    Calls Try.prog 42 #[.pointer (some ⟨b, 0, none⟩), .slice A n c] w (DoesPost T lo b g ver sh done xs w) := by
  obtain ⟨n0, s2, h1n⟩ : ∃ n s, stNum s1 = (n, s) := ⟨_, _, rfl⟩
  obtain ⟨n1, s3, h2n⟩ : ∃ n s, stNum s2 = (n, s) := ⟨_, _, rfl⟩
  obtain ⟨l, s4, h3n⟩ : ∃ n s, rdN s3 = (n, s) := ⟨_, _, rfl⟩
  obtain ⟨m, hm⟩ : ∃ m, l.length = m := ⟨_, rfl⟩
  have hbl := hM.lt.1
  have hxl : (left (some xs)).length ≤ 140737488351232 := by simp [left]; omega
  have hl1 : (left s1).length ≤ 140737488351232 := by have := left_num hxl; rwa [h0n] at this
  have hl2 : (left s2).length ≤ 140737488351232 := by have := left_num hl1; rwa [h1n] at this
  have hl3 : (left s3).length ≤ 140737488351232 := by have := left_num hl2; rwa [h2n] at this
  have hm7 : m ≤ 7 := by
    have e : l = (rdN s3).1 := by rw [h3n]
    rw [← hm, e]
    unfold rdN
    split
    · simp
    · simp only [reader.stNums_len]; omega
  have hver : ver ≤ 1099511627777 := hok.1
  have hn0 : n0 ≤ 4611686018427387904 := by
    cases s1 with
    | none => simp [stNum] at h1n; omega
    | some q =>
      simp only [stNum] at h1n
      split at h1n
      · simp at h1n; omega
      · rename_i hd
        have := dec_bd hd
        simp at h1n
        omega
  have hn1 : n1 ≤ 4611686018427387904 := by
    cases s2 with
    | none => simp [stNum] at h2n; omega
    | some q =>
      simp only [stNum] at h2n
      split at h2n
      · simp at h2n; omega
      · rename_i hd
        have := dec_bd hd
        simp at h2n
        omega
  have hq := mDo_eq2 (ver := ver) (sh := sh) h0n h1n h2n h3n
  have HCAN : As (s4 = some [] → moveB n0 n1 l = xs ∧ grp l = true) := ⟨fun e => move_canon hw h0n h1n h2n (by rw [h3n, e])⟩
  have HMS := As.mk hm
  have HM := As.mk hM
  have HLO := As.mk hlo
  have HT := As.mk hT
  have HN := As.mk hn
  have HR := As.mk h0
  have HW := As.mk hw
  have HBL := As.mk hbl
  have HQ := As.mk hq
  have HNEW := As.mk (reader.new_any A n c xs w hn h0 hnil (by omega) hw)
  have HNUM : As (∀ w1 br gr, reader.Rdr w1 br gr (some xs) → w.heap.size ≤ br → (∀ x, gr = some x → w.heap.size ≤ x ∧ x < w1.heap.size) → Kp [] w w1 → Calls Try.prog 47 #[.pointer (some ⟨br, 0, none⟩)] w1 fun e w2 => e = .returned (.int .i64 2) ∧ ∃ gr2, reader.Rdr w2 br gr2 s1 ∧ (∀ x, gr2 = some x → w.heap.size ≤ x ∧ x < w2.heap.size) ∧ Kp [] w w2) := ⟨by
    intro w1 br gr R1 hbr hgr k1
    refine (reader.num_any br gr (some xs) w1 R1 (by omega)).mono ?_
    rw [h0n]
    rintro e w2 ⟨rfl, g2, R2, G2, K2⟩
    have hs := K2.size
    refine ⟨rfl, g2, R2, fun x hx => ?_, k1.trans K2 (fun x hx => .inr (by simp at hx; omega))⟩
    rcases G2 with rfl | rfl
    · have := hgr x hx; omega
    · cases hx⟩
  have HNMS : As (∀ w2 br gr, reader.Rdr w2 br gr s1 → w.heap.size ≤ br → (∀ x, gr = some x → w.heap.size ≤ x ∧ x < w2.heap.size) → Kp [] w w2 → Calls Try.prog 69 #[.pointer (some ⟨br, 0, none⟩), .slice (some ⟨w2.heap.size + 1 + 1, 0, none⟩) 2 2]
      (((w2.alloc (.cells #[.int .i64 0] 3)).alloc (.cells #[.int .i64 0] 3)).alloc (.cells #[.pointer (some ⟨w2.heap.size, 0, none⟩), .pointer (some ⟨w2.heap.size + 1, 0, none⟩)] 106)) fun e w3 => e = .returned (.tuple #[]) ∧ (∃ gr3, reader.Rdr w3 br gr3 s3 ∧ (∀ x, gr3 = some x → x < w3.heap.size)) ∧ w3.cell? ⟨w2.heap.size, 0, none⟩ = some (.int .i64 n0) ∧ w3.cell? ⟨w2.heap.size + 1, 0, none⟩ = some (.int .i64 n1) ∧ br < w2.heap.size ∧ Kp [] w w3) := ⟨by
    intro w2 br gr R2 hbr hgr k2
    refine (rep_nums R2 (fun x hx => (hgr x hx).2) (by omega) h1n h2n).mono ?_
    rintro e w3 ⟨rfl, ⟨g3, R3, G3⟩, c0, c1, K3, _⟩
    have hs := K3.size
    refine ⟨rfl, ⟨g3, R3, fun x hx => ?_⟩, c0, c1, R2.lt, k2.trans K3 (fun x hx => .inr (by simp at hx; omega))⟩
    rcases G3 with rfl | rfl
    · have := hgr x hx; omega
    · cases hx⟩
  have HRN : As (∀ w3 br gr, reader.Rdr w3 br gr s3 → w.heap.size ≤ br → (∀ x, gr = some x → x < w3.heap.size) → Kp [] w w3 → Calls Try.prog 70 #[.pointer (some ⟨br, 0, none⟩)] w3 fun e w4 => ∃ A4 c4, e = .returned (.slice A4 m c4) ∧ Own 3 .i64 w4 w.heap.size (.slice A4 m c4) l ∧ Rd w4 A4 (iv .i64 l) ∧ (∃ g4, reader.Rdr w4 br g4 s4) ∧ Kp [br] w3 w4 ∧ Kp [] w w4) := ⟨by
    intro w3 br gr R3 hbr hgr k3
    refine (readNodes_any br gr s3 w3 R3 hgr (by omega)).mono ?_
    rw [h3n]
    rintro e w4 ⟨v, rfl, ho, g4, R4, G4, K4⟩
    obtain ⟨A4, c4, rfl, _, _, r4, _⟩ := own_rd ho.1
    have ho' := ho.lower k3.size
    rw [hm] at ho' ⊢
    exact ⟨A4, c4, rfl, ho', r4, ⟨g4, R4⟩, K4, k3.trans K4 (fun x hx => .inr (by simp at hx; omega))⟩⟩
  clear hM hlo hT hn h0 hnil hw h0n h1n h2n h3n hxl hl1 hl2 hl3 hok hm hq
  by_cases hwh : s4 = some []
  · obtain ⟨hcan, hgr⟩ := HCAN.out hwh
    have HWH : As (reader.whole s4 = true) := ⟨by rw [hwh]; rfl⟩
    by_cases hmv : (1 ≤ n0 ∧ n0 ≤ 1099511627776) ∧ n1 < 8
    · have hok2 : mvOk n0 n1 l = true := by rw [mvOk, decide_eq_true_eq]; exact ⟨⟨by omega, by omega⟩, ⟨by omega, by omega⟩, hgr⟩
      have HMV : As (∀ w4 A4 c4, Rd w4 A4 (iv .i64 l) → Calls Try.prog 13 #[.int .i64 (n0 : Int), .int .i64 (n1 : Int), .slice A4 m c4] w4 fun e w5 => ∃ A5 c5, e = .returned (.tuple #[.slice A5 n c5, .int .i64 0]) ∧ Rd w5 A5 (iv .u8 xs) ∧ Kp [] w4 w5) := ⟨by
        intro w4 A4 c4 r4
        refine (move_any n0 n1 A4 m c4 l w4 HMS.out r4 (by omega)).mono ?_
        rw [moveR, if_pos hok2, hcan, okZ, if_pos hok2]
        rintro e w5 ⟨v5, rfl, o5, k5⟩
        obtain ⟨A5, c5, rfl, _, _, r5, _⟩ := own_rd o5.1
        rw [HN.out]
        exact ⟨A5, c5, rfl, r5, k5⟩⟩
      have HEQ : As (∀ w5 A5 c5, Rd w5 A5 (iv .u8 xs) → Kp [] w w5 → Calls Try.prog 68 #[.slice A5 n c5, .slice A n c] w5 fun e w' => e = .returned (.bool true) ∧ w' = w5) := ⟨by
        intro w5 A5 c5 r5 k5
        have := frame.equal_any A5 A n c5 n c xs xs w5 HN.out HN.out r5 (k5.rd_new HR.out (by simp)) HW.out HW.out
        rwa [decide_eq_true rfl] at this⟩
      obtain ⟨ns, hns⟩ : ∃ ns, sh.length = ns := ⟨_, rfl⟩
      obtain ⟨A0, c0, hblk, hAg, hOL⟩ := HM.out.blk
      rw [hns] at hblk
      have HBK := As.mk hblk
      have HAG := As.mk hAg
      have HNS := As.mk hns
      have hns9 : ns ≤ 9223372036854775807 := by obtain ⟨_, _, hv, h1, h2, _⟩ := hOL.form; cases hv; omega
      have HPOS : As (n1 < ns → ∃ g0 : Nat, A0 = some ⟨g0, 0, none⟩) := ⟨fun hlt => by
        obtain ⟨vs, ho, _⟩ := hOL
        obtain ⟨g0, cap, hv, _, _⟩ := own_form ho (by omega)
        cases hv
        exact ⟨g0, rfl⟩⟩
      have HQ2 : As (mDo ver sh xs = if ns ≤ n1 then (ver, sh, 7) else if n0 ≠ ver then (ver, sh, 13) else (ver + 1, sh.set n1 l, 0)) := ⟨by rw [HQ.out, if_pos ⟨hwh, hmv.1.1, hmv.1.2, hmv.2⟩, hns]⟩
      clear hok2 hcan hgr hmv hns hblk hAg hOL hwh
      go_enter Try.func42, Try.ntmps42
      go_upto_region 19 with (first
        | (go_at_call 46; refine HNEW.out.mono ?_; rintro e w1 ⟨br, gr, rfl, R1, B1, G1, K1⟩; have HN1 := As.mk (HNUM.out w1 br gr R1 B1 G1 K1); have HB1 := As.mk B1; clear R1 B1 G1 K1 HNEW)
        | (go_at_call 47; refine HN1.out.mono ?_; rintro e w2 ⟨rfl, gr2, R2, G2, K2⟩; have HS2 := As.mk (HNMS.out w2 br gr2 R2 HB1.out G2 K2); clear R2 G2 K2 HN1)
        | (go_at_call 69; refine HS2.out.mono ?_; rintro e w3 ⟨rfl, ⟨gr3, R3, G3⟩, p0, p1, B2, K3⟩; have HR3 := As.mk (HRN.out w3 br gr3 R3 HB1.out G3 K3); have P0 := As.mk p0; have P1 := As.mk p1; have HB2 := As.mk B2; clear R3 G3 K3 p0 p1 B2 HS2)
        | (go_at_call 70; refine HR3.out.mono ?_; rintro e w4 ⟨A4, c4, rfl, O4, R4, ⟨g4, D4⟩, K34, K4⟩; have p0 := K34.cell P0.out (by have := HB2.out; simp; omega); have p1 := K34.cell P1.out (by have := HB2.out; simp; omega); have HP0 := As.mk p0; have HP1 := As.mk p1; have HK4 := As.mk K4; have HO4 := As.mk O4; have HD4 := As.mk D4; have HV4 := As.mk (HMV.out w4 A4 c4 R4); clear O4 R4 D4 K34 K4 HR3)
        | (go_at_call 13; refine HV4.out.mono ?_; rintro e w5 ⟨A5, c5, rfl, R5, K5⟩; have HK5 : As (Kp [] w w5) := ⟨HK4.out.trans K5 (by simp)⟩; have HW5 := As.mk (reader.whole_any br g4 s4 w5 (HD4.out.kp K5 (by simp) (by simp))); rw [HWH.out] at HW5; have HO5 := As.mk (HO4.out.kp K5 (by simp)); have p0' := K5.cell HP0.out (by simp); have p1' := K5.cell HP1.out (by simp); have HE5 := As.mk (HEQ.out w5 A5 c5 R5 HK5.out); have hb5 := HK5.out.blk HBK.out (by simp); have q0 := blk_cell hb5 0 rfl; have q1 := blk_cell hb5 1 rfl; have HB5 := As.mk hb5; clear K5 R5 HV4 hb5)
        | (go_at_call 49; refine HW5.out.mono ?_; rintro e w6 ⟨rfl, rfl⟩; clear HW5)
        | (go_at_call 68; refine HE5.out.mono ?_; rintro e w7 ⟨rfl, rfl⟩; clear HE5))
      by_cases h7 : ns ≤ n1
      · have HE : As (mDo ver sh xs = (ver, sh, 7)) := ⟨by rw [HQ2.out, if_pos h7]⟩
        go_quiet (fail)
        go_wp2
        go_ret
        exact DoesPost.err HE.out (HM.out.kp (HK5.out.drewN _) (by simp)) (HK5.out.drewN _)
      · have hlt : n1 < ns := by omega
        obtain ⟨g0, rfl⟩ := HPOS.out hlt
        have hAg := HAG.out
        obtain rfl : g = some g0 := by rw [← hAg]; rfl
        by_cases h13 : n0 = ver
        · subst h13
          have HE : As (mDo n0 sh xs = (n0 + 1, sh.set n1 l, 0)) := ⟨by rw [HQ2.out, if_neg h7, if_neg (by simp)]⟩
          have e13 : ((n0 : Int) != (n0 : Int)) = false := by simp
          have HFIN : As (∀ wY, Kp [] w7 wY → _) := ⟨fun wY kY => DoesPost.moved (n := ns) (c := c0) HE.out (HM.out.kp (HK5.out.trans kY (by simp)) (by simp)) (HK5.out.trans kY (by simp)) HLO.out HT.out HBL.out (HM.out.lt.2 g0 rfl) HNS.out hlt (kY.blk HB5.out (by simp)) (HO5.out.kp kY (by simp))⟩
          clear hAg
          go_quiet (fail)
          go_wp2
          go_quiet (fail)
          go_wp2
          obtain ⟨⟨x0, y0⟩, y1, y2, y3, _⟩ := HFIN.out w7 (Kp.refl [] w7)
          have y4 := blk_free HB5.out 0
          have hg0 := HM.out.lt.2 g0 rfl
          have hgb : g0 ≠ b := fun e => HM.out.apart b (by simp) (by rw [e])
          have hg1 := HB1.out
          have hg2 := HB2.out
          have d1 : ¬ g0 = b := hgb
          have d2 : ¬ b = g0 := fun e => hgb e.symm
          have d3 : ¬ g0 = w2.heap.size + 1 := by omega
          have d4 : ¬ w2.heap.size + 1 = g0 := by omega
          clear hg0 hgb hg1 hg2
          go_region_held3 (fun w' => w'.cell? ⟨b, 1, none⟩ = some (.slice (some ⟨g0, 0, none⟩) ns c0) ∧ w'.cell? ⟨w2.heap.size + 1, 0, none⟩ = some (.int .i64 (n1 : Int))) (go_keep) (fail)
          all_goals go_wp2
          all_goals go_ret
          all_goals first
            | exact (HFIN.out _ ((Kp.refl [] w7).drewN _)).2.2.2.2
            | exact (HFIN.out _ (((Kp.refl [] w7).drewN _).drew)).2.2.2.2
        · have HE : As (mDo ver sh xs = (ver, sh, 13)) := ⟨by rw [HQ2.out, if_neg h7, if_pos h13]⟩
          have e13 : ((n0 : Int) != (ver : Int)) = true := by simp; omega
          clear hAg
          go_quiet (fail)
          go_wp2
          go_quiet (fail)
          go_wp2
          go_ret
          first
            | exact DoesPost.err HE.out (HM.out.kp (HK5.out.drewN _) (by simp)) (HK5.out.drewN _)
            | exact DoesPost.err HE.out (HM.out.kp ((HK5.out.drewN _).drewN _) (by simp)) ((HK5.out.drewN _).drewN _)
    · have hok2 : mvOk n0 n1 l = false := by rw [mvOk, decide_eq_false_iff_not]; intro h; exact hmv ⟨⟨by omega, by omega⟩, by omega⟩
      have HE : As (mDo ver sh xs = (ver, sh, 3)) := ⟨by rw [HQ.out, if_neg]; intro h; exact hmv ⟨⟨h.2.1, h.2.2.1⟩, h.2.2.2⟩⟩
      have HMV : As (∀ w4 A4 c4, Rd w4 A4 (iv .i64 l) → Calls Try.prog 13 #[.int .i64 (n0 : Int), .int .i64 (n1 : Int), .slice A4 m c4] w4 fun e w5 => ∃ v5, e = .returned (.tuple #[v5, .int .i64 1]) ∧ Kp [] w4 w5) := ⟨by
        intro w4 A4 c4 r4
        refine (move_any n0 n1 A4 m c4 l w4 HMS.out r4 (by omega)).mono ?_
        rw [okZ, hok2]
        rintro e w5 ⟨v5, rfl, o5, k5⟩
        exact ⟨v5, rfl, k5⟩⟩
      clear hok2 hcan hgr hmv hwh
      go_enter Try.func42, Try.ntmps42
      go_wp2_with (first
        | (go_at_call 46; refine HNEW.out.mono ?_; rintro e w1 ⟨br, gr, rfl, R1, B1, G1, K1⟩; have HN1 := As.mk (HNUM.out w1 br gr R1 B1 G1 K1); have HB1 := As.mk B1; clear R1 B1 G1 K1 HNEW)
        | (go_at_call 47; refine HN1.out.mono ?_; rintro e w2 ⟨rfl, gr2, R2, G2, K2⟩; have HS2 := As.mk (HNMS.out w2 br gr2 R2 HB1.out G2 K2); clear R2 G2 K2 HN1)
        | (go_at_call 69; refine HS2.out.mono ?_; rintro e w3 ⟨rfl, ⟨gr3, R3, G3⟩, p0, p1, B2, K3⟩; have HR3 := As.mk (HRN.out w3 br gr3 R3 HB1.out G3 K3); have P0 := As.mk p0; have P1 := As.mk p1; have HB2 := As.mk B2; clear R3 G3 K3 p0 p1 B2 HS2)
        | (go_at_call 70; refine HR3.out.mono ?_; rintro e w4 ⟨A4, c4, rfl, O4, R4, ⟨g4, D4⟩, K34, K4⟩; have p0 := K34.cell P0.out (by have := HB2.out; simp; omega); have p1 := K34.cell P1.out (by have := HB2.out; simp; omega); have HK4 := As.mk K4; have HD4 := As.mk D4; have HV4 := As.mk (HMV.out w4 A4 c4 R4); clear O4 R4 D4 K34 K4 HR3)
        | (go_at_call 13; refine HV4.out.mono ?_; rintro e w5 ⟨v5, rfl, K5⟩; have HK5 : As (Kp [] w w5) := ⟨HK4.out.trans K5 (by simp)⟩; have HW5 := As.mk (reader.whole_any br g4 s4 w5 (HD4.out.kp K5 (by simp) (by simp))); rw [HWH.out] at HW5; clear K5 HV4)
        | (go_at_call 49; refine HW5.out.mono ?_; rintro e w6 ⟨rfl, rfl⟩; clear HW5))
      go_ret
      exact DoesPost.err HE.out (HM.out.kp HK5.out (by simp)) HK5.out
  · have HWH : As (reader.whole s4 = false) := ⟨by simpa [reader.whole] using hwh⟩
    have HE : As (mDo ver sh xs = (ver, sh, 3)) := ⟨by rw [HQ.out, if_neg]; intro h; exact hwh h.1⟩
    have HMV : As (∀ w4 A4 c4, Rd w4 A4 (iv .i64 l) → Calls Try.prog 13 #[.int .i64 (n0 : Int), .int .i64 (n1 : Int), .slice A4 m c4] w4 fun e w5 => ∃ v5 z5, e = .returned (.tuple #[v5, .int .i64 z5]) ∧ Kp [] w4 w5) := ⟨by
      intro w4 A4 c4 r4
      refine (move_any n0 n1 A4 m c4 l w4 HMS.out r4 (by omega)).mono ?_
      rintro e w5 ⟨v5, rfl, o5, k5⟩
      exact ⟨v5, _, rfl, k5⟩⟩
    clear hwh
    go_enter Try.func42, Try.ntmps42
    go_wp2_with (first
      | (go_at_call 46; refine HNEW.out.mono ?_; rintro e w1 ⟨br, gr, rfl, R1, B1, G1, K1⟩; have HN1 := As.mk (HNUM.out w1 br gr R1 B1 G1 K1); have HB1 := As.mk B1; clear R1 B1 G1 K1 HNEW)
      | (go_at_call 47; refine HN1.out.mono ?_; rintro e w2 ⟨rfl, gr2, R2, G2, K2⟩; have HS2 := As.mk (HNMS.out w2 br gr2 R2 HB1.out G2 K2); clear R2 G2 K2 HN1)
      | (go_at_call 69; refine HS2.out.mono ?_; rintro e w3 ⟨rfl, ⟨gr3, R3, G3⟩, p0, p1, B2, K3⟩; have HR3 := As.mk (HRN.out w3 br gr3 R3 HB1.out G3 K3); have P0 := As.mk p0; have P1 := As.mk p1; have HB2 := As.mk B2; clear R3 G3 K3 p0 p1 B2 HS2)
      | (go_at_call 70; refine HR3.out.mono ?_; rintro e w4 ⟨A4, c4, rfl, O4, R4, ⟨g4, D4⟩, K34, K4⟩; have p0 := K34.cell P0.out (by have := HB2.out; simp; omega); have p1 := K34.cell P1.out (by have := HB2.out; simp; omega); have HK4 := As.mk K4; have HD4 := As.mk D4; have HV4 := As.mk (HMV.out w4 A4 c4 R4); clear O4 R4 D4 K34 K4 HR3)
      | (go_at_call 13; refine HV4.out.mono ?_; rintro e w5 ⟨v5, z5, rfl, K5⟩; have HK5 : As (Kp [] w w5) := ⟨HK4.out.trans K5 (by simp)⟩; have HW5 := As.mk (reader.whole_any br g4 s4 w5 (HD4.out.kp K5 (by simp) (by simp))); rw [HWH.out] at HW5; clear K5 HV4)
      | (go_at_call 49; refine HW5.out.mono ?_; rintro e w6 ⟨rfl, rfl⟩; clear HW5))
    go_ret
    exact DoesPost.err HE.out (HM.out.kp HK5.out (by simp)) HK5.out
end Go.Proofs.Ytiabdeciadfiiaa.man
