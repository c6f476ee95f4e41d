/- Package manifest: does. -/
import Derived.Test.YtiabdeciadfiiaaManE
namespace Go.Proofs.Ytiabdeciadfiiaa.man
open Go.RowKit H O opk

set_option maxHeartbeats 8000000 in
set_option maxRecDepth 100000 in
theorem does_any (T : List Nat) (lo b : Nat) (g : Option Nat) (ver : Nat) (sh : List (List Int)) (done : Int) (A : Option Addr) (n c : Nat) (xs : List Int) (w : World) (hM : MSt T lo b g ver sh done w) (hok : MapOk ver sh) (hlo : lo ≤ w.heap.size) (hT : ∀ x ∈ T, x < w.heap.size)
    (hn : xs.length = n) (h0 : Rd w A (iv .u8 xs)) (hnil : A = none → c = 0) (hb : n ≤ 140737488351232) (hw : Wf xs) :
    Calls Try.prog 42 #[.pointer (some ⟨b, 0, none⟩), .slice A n c] w (DoesPost T lo b g ver sh done xs w) := by
  obtain ⟨k0, s1, h0n⟩ : ∃ k0 s1, stNum (some xs) = (k0, s1) := ⟨_, _, rfl⟩
  have hbl := hM.lt.1
  have hxl : (left (some xs)).length ≤ 140737488351232 := by simp [left]; omega
  have hl1 : (left s1).length ≤ 140737488351232 := by have := left_num hxl; rwa [h0n] at this
  have hver : ver ≤ 1099511627777 := hok.1
  have HM := As.mk hM
  have HLO := As.mk hlo
  have HT := As.mk hT
  have HN := As.mk hn
  have HR := As.mk h0
  have HNL := As.mk hnil
  have HW := As.mk hw
  have HOK := As.mk hok
  have H0N := As.mk h0n
  have HL1 := As.mk hl1
  have HBL := As.mk hbl
  have HNEW := As.mk (reader.new_any A n c xs w hn h0 hnil (by omega) hw)
  have HNUM : As (∀ w1 br gr, reader.Rdr w1 br gr (some xs) → w.heap.size ≤ br → (∀ x, gr = some x → w.heap.size ≤ x ∧ x < w1.heap.size) → Kp [] w w1 → Calls Try.prog 47 #[.pointer (some ⟨br, 0, none⟩)] w1 fun e w2 => e = .returned (.int .i64 (k0 : Int)) ∧ ∃ gr2, reader.Rdr w2 br gr2 s1 ∧ (∀ x, gr2 = some x → w.heap.size ≤ x ∧ x < w2.heap.size) ∧ Kp [] w w2) := ⟨by
    intro w1 br gr R1 hbr hgr k1
    refine (reader.num_any br gr (some xs) w1 R1 (by omega)).mono ?_
    rw [h0n]
    rintro e w2 ⟨rfl, g2, R2, G2, K2⟩
    have hs := K2.size
    refine ⟨rfl, g2, R2, fun x hx => ?_, k1.trans K2 (fun x hx => .inr (by simp at hx; omega))⟩
    rcases G2 with rfl | rfl
    · have := hgr x hx; omega
    · cases hx⟩
  clear hM hlo hT hn h0 hnil hw h0n hxl hl1 hok
  by_cases h1 : k0 = 1
  · subst h1
    obtain ⟨l, s2, hg⟩ : ∃ l s2, rdG s1 = (l, s2) := ⟨_, _, rfl⟩
    have HG := As.mk hg
    have hl2 : (left s2).length ≤ 140737488351232 := by have := left_rdG HL1.out; rwa [hg] at this
    have HRS : As (∀ w2 br gr, reader.Rdr w2 br gr s1 → w.heap.size ≤ br → (∀ x, gr = some x → w.heap.size ≤ x ∧ x < w2.heap.size) → Kp [] w w2 → Calls Try.prog 48 #[.pointer (some ⟨br, 0, none⟩)] w2 fun e w3 => ∃ A3 c3 lo3, e = .returned (.slice A3 l.length c3) ∧ OwnL [br] w3 lo3 (.slice A3 l.length c3) l ∧ w.heap.size ≤ lo3 ∧ Ri [] w3 A3 l ∧ (∃ g3, reader.Rdr w3 br g3 s2) ∧ Kp [] w w3) := ⟨by
      intro w2 br gr R2 hbr hgr k2
      refine (readShards_any br gr s1 w2 R2 (fun x hx => (hgr x hx).2) (by have := HL1.out; omega)).mono ?_
      rw [hg]
      rintro e w3 ⟨v, rfl, ho, g3, R3, G3, K3⟩
      have k3 : Kp [] w w3 := k2.trans K3 (fun x hx => .inr (by simp at hx; omega))
      obtain ⟨A3, c3, rfl, _, _, _, _⟩ := ho.form
      exact ⟨A3, c3, _, rfl, ho, k2.size, ho.ri (by simp), ⟨g3, R3⟩, k3⟩⟩
    have hq := mDo_eq1 (ver := ver) (sh := sh) H0N.out hg
    by_cases hwh : s2 = some []
    · subst hwh
      obtain ⟨hcan, hgr, hl8⟩ := found_canon HW.out H0N.out hg
      by_cases hl0 : l = []
      · have HE : As (mDo ver sh xs = (ver, sh, 3)) := ⟨by rw [hq, if_neg]; intro h; exact h.2 hl0⟩
        subst hl0
        have HF : As (∀ w3 A3 c3, Calls Try.prog 10 #[.slice A3 0 c3] w3 fun e w4 => ∃ v4, e = .returned (.tuple #[v4, .int .i64 1]) ∧ Kp [] w3 w4) := ⟨by
          intro w3 A3 c3
          refine (found_any A3 0 c3 [] w3 rfl (Ri.nil _ _ _) (by simp [gSize])).mono ?_
          rintro e w4 ⟨v4, rfl, _, k4⟩
          exact ⟨v4, rfl, k4⟩⟩
        clear hq hcan hgr hl8 hl2 hg
        go_enter Try.func42, Try.ntmps42
        go_wp2_with (first
          | (go_at_call 46; refine HNEW.out.mono ?_; rintro e w1 ⟨br, gr, rfl, R1, B1, G1, K1⟩; have HN1 := As.mk (HNUM.out w1 br gr R1 B1 G1 K1); have HB1 := As.mk B1; clear R1 B1 G1 K1 HNEW)
          | (go_at_call 47; refine HN1.out.mono ?_; rintro e w2 ⟨rfl, gr2, R2, G2, K2⟩; have HS2 := As.mk (HRS.out w2 br gr2 R2 HB1.out G2 K2); clear R2 G2 K2 HN1)
          | (go_at_call 48; refine HS2.out.mono ?_; rintro e w3 ⟨A3, c3, lo3, rfl, O3, L3, R3, ⟨g3, D3⟩, K3⟩; have HK3 := As.mk K3; have HD3 := As.mk D3; have HF3 := As.mk (HF.out w3 A3 c3); clear O3 L3 R3 D3 K3 HS2)
          | (go_at_call 10; refine HF3.out.mono ?_; rintro e w4 ⟨v4, rfl, K4⟩; have HK4 : As (Kp [] w w4) := ⟨HK3.out.trans K4 (by simp)⟩; have HW4 := As.mk (reader.whole_any br g3 (some []) w4 (HD3.out.kp K4 (by simp) (by simp))); clear K4 HF3)
          | (go_at_call 49; refine HW4.out.mono ?_; rintro e w5 ⟨rfl, rfl⟩; clear HW4))
        go_ret
        exact DoesPost.err HE.out (HM.out.kp HK4.out (by simp)) HK4.out
      · have hgs : gSize l ≤ 10000 := by
          have : ∀ (l : List (List Int)), (∀ x ∈ l, grp x = true) → gSize l ≤ 8 * l.length := by
            intro l h
            induction l with
            | nil => simp [gSize]
            | cons x l ih =>
              have h1 := (grp_len (h x (by simp))).2
              have h2 := ih (fun y hy => h y (by simp [hy]))
              simp only [gSize, List.map_cons, List.sum_cons, List.length_cons] at h2 ⊢
              omega
          have := this l hgr
          omega
        have hlp : 1 ≤ l.length := by
          cases l with
          | nil => exact absurd rfl hl0
          | cons x r => simp
        obtain ⟨m, hm⟩ : ∃ m, l.length = m := ⟨_, rfl⟩
        rw [hm] at HRS
        have hgok : gOk l = true := by rw [gOk, decide_eq_true_eq]; exact ⟨⟨hlp, hl8⟩, hgr⟩
        have HF : As (∀ w3 A3 c3, Ri [] w3 A3 l → Calls Try.prog 10 #[.slice A3 m c3] w3 fun e w4 => ∃ A4 c4, e = .returned (.tuple #[.slice A4 n c4, .int .i64 0]) ∧ Rd w4 A4 (iv .u8 xs) ∧ Kp [] w3 w4) := ⟨by
          intro w3 A3 c3 r3
          refine (found_any A3 m c3 l w3 hm r3 hgs).mono ?_
          rw [foundR, if_pos hgok, hcan, okZ, if_pos hgok]
          rintro e w4 ⟨v4, rfl, o4, k4⟩
          obtain ⟨A4, c4, rfl, _, _, r4, _⟩ := own_rd o4.1
          rw [HN.out]
          exact ⟨A4, c4, rfl, r4, k4⟩⟩
        have HEQ : As (∀ w4 A4 c4, Rd w4 A4 (iv .u8 xs) → Kp [] w w4 → Calls Try.prog 68 #[.slice A4 n c4, .slice A n c] w4 fun e w' => e = .returned (.bool true) ∧ w' = w4) := ⟨by
          intro w4 A4 c4 r4 k4
          have := frame.equal_any A4 A n c4 n c xs xs w4 HN.out HN.out r4 (k4.rd_new HR.out (by simp)) HW.out HW.out
          rwa [decide_eq_true rfl] at this⟩
        have HM0 := As.mk hm
        have HL0 := As.mk hl0
        obtain ⟨A0, c0, hblk, _⟩ := HM.out.blk
        have HBK := As.mk hblk
        clear hgok hgs hcan hgr hl8 hl2 hg hm hlp hl0 hblk
        by_cases hv : 0 < ver
        · have HE : As (mDo ver sh xs = (ver, sh, 8)) := ⟨by rw [hq, if_pos ⟨rfl, HL0.out⟩, if_pos hv]⟩
          clear hq
          go_enter Try.func42, Try.ntmps42
          go_wp2_with (first
            | (go_at_call 46; refine HNEW.out.mono ?_; rintro e w1 ⟨br, gr, rfl, R1, B1, G1, K1⟩; have HN1 := As.mk (HNUM.out w1 br gr R1 B1 G1 K1); have HB1 := As.mk B1; clear R1 B1 G1 K1 HNEW)
            | (go_at_call 47; refine HN1.out.mono ?_; rintro e w2 ⟨rfl, gr2, R2, G2, K2⟩; have HS2 := As.mk (HRS.out w2 br gr2 R2 HB1.out G2 K2); clear R2 G2 K2 HN1)
            | (go_at_call 48; refine HS2.out.mono ?_; rintro e w3 ⟨A3, c3, lo3, rfl, O3, L3, R3, ⟨g3, D3⟩, K3⟩; have HK3 := As.mk K3; have HD3 := As.mk D3; have HF3 := As.mk (HF.out w3 A3 c3 R3); clear O3 L3 R3 D3 K3 HS2)
            | (go_at_call 10; refine HF3.out.mono ?_; rintro e w4 ⟨A4, c4, rfl, R4, K4⟩; have HK4 : As (Kp [] w w4) := ⟨HK3.out.trans K4 (by simp)⟩; have HW4 := As.mk (reader.whole_any br g3 (some []) w4 (HD3.out.kp K4 (by simp) (by simp))); have HE4 := As.mk (HEQ.out w4 A4 c4 R4 HK4.out); have hb4 := HK4.out.blk HBK.out (by simp); have q0 := blk_cell hb4 0 rfl; clear K4 R4 HF3 hb4)
            | (go_at_call 49; refine HW4.out.mono ?_; rintro e w5 ⟨rfl, rfl⟩; clear HW4)
            | (go_at_call 68; refine HE4.out.mono ?_; rintro e w6 ⟨rfl, rfl⟩; clear HE4))
          go_ret
          exact DoesPost.err HE.out (HM.out.kp HK4.out (by simp)) HK4.out
        · have HE : As (mDo ver sh xs = (1, l, 0)) := ⟨by rw [hq, if_pos ⟨rfl, HL0.out⟩, if_neg hv]⟩
          obtain rfl : ver = 0 := by omega
          have HFIN : As (∀ w4 br A3 c3 lo3, OwnL [br] w4 lo3 (.slice A3 m c3) l → w.heap.size ≤ lo3 → Kp [] w w4 → (∃ x, w4.cell? ⟨b, 0, none⟩ = some x) ∧ (∃ x, w4.cell? ⟨b, 1, none⟩ = some x) ∧ w4.frozen? ⟨b, 0, none⟩ = false ∧ w4.frozen? ⟨b, 1, none⟩ = false ∧
              DoesPost T lo b g 0 sh done xs w (.returned (.int .i64 0)) ((w4.setCell ⟨b, 0, none⟩ (.int .i64 1)).setCell ⟨b, 1, none⟩ (.slice A3 m c3))) := ⟨fun w4 br A3 c3 lo3 o3 l3 k4 =>
            DoesPost.first HE.out HL0.out (HM.out.kp k4 (by simp)) k4 HLO.out HT.out HBL.out HM0.out o3 l3⟩
          clear hq
          go_enter Try.func42, Try.ntmps42
          go_wp2_with (first
            | (go_at_call 46; refine HNEW.out.mono ?_; rintro e w1 ⟨br, gr, rfl, R1, B1, G1, K1⟩; have HN1 := As.mk (HNUM.out w1 br gr R1 B1 G1 K1); have HB1 := As.mk B1; clear R1 B1 G1 K1 HNEW)
            | (go_at_call 47; refine HN1.out.mono ?_; rintro e w2 ⟨rfl, gr2, R2, G2, K2⟩; have HS2 := As.mk (HRS.out w2 br gr2 R2 HB1.out G2 K2); clear R2 G2 K2 HN1)
            | (go_at_call 48; refine HS2.out.mono ?_; rintro e w3 ⟨A3, c3, lo3, rfl, O3, L3, R3, ⟨g3, D3⟩, K3⟩; have HK3 := As.mk K3; have HD3 := As.mk D3; have HO3 := As.mk O3; have HL3 := As.mk L3; have HF3 := As.mk (HF.out w3 A3 c3 R3); clear O3 L3 R3 D3 K3 HS2)
            | (go_at_call 10; refine HF3.out.mono ?_; rintro e w4 ⟨A4, c4, rfl, R4, K4⟩; have HK4 : As (Kp [] w w4) := ⟨HK3.out.trans K4 (by simp)⟩; have HW4 := As.mk (reader.whole_any br g3 (some []) w4 (HD3.out.kp K4 (by simp) (by simp))); have HE4 := As.mk (HEQ.out w4 A4 c4 R4 HK4.out); have hb4 := HK4.out.blk HBK.out (by simp); have q0 := blk_cell hb4 0 rfl; obtain ⟨_, ⟨x1, q1⟩, f0, f1, hfin⟩ := HFIN.out w4 br A3 c3 lo3 (HO3.out.kp K4 (by simp) (by simp) (fun x hx => .inl hx)) HL3.out HK4.out; have HP := As.mk hfin; clear K4 R4 HF3 hb4 hfin)
            | (go_at_call 49; refine HW4.out.mono ?_; rintro e w5 ⟨rfl, rfl⟩; clear HW4)
            | (go_at_call 68; refine HE4.out.mono ?_; rintro e w6 ⟨rfl, rfl⟩; clear HE4))
          go_ret
          exact HP.out
    · have HE : As (mDo ver sh xs = (ver, sh, 3)) := ⟨by rw [hq, if_neg]; intro h; exact hwh h.1⟩
      have HWH : As (reader.whole s2 = false) := ⟨by simpa [reader.whole] using hwh⟩
      obtain ⟨m, hm⟩ : ∃ m, l.length = m := ⟨_, rfl⟩
      rw [hm] at HRS
      have HF : As (∀ w3 A3 c3, Ri [] w3 A3 l → Calls Try.prog 10 #[.slice A3 m c3] w3 fun e w4 => ∃ v4 z4, e = .returned (.tuple #[v4, .int .i64 z4]) ∧ Kp [] w3 w4) := ⟨by
        intro w3 A3 c3 r3
        have hgs : gSize l ≤ 10000 := by
          have h7 : ∀ (s : Option (List Int)), (rdN s).1.length ≤ 7 := by
            intro s
            unfold rdN
            split
            · simp
            · simp only [reader.stNums_len]; omega
          have hr : ∀ (k : Nat) (s : Option (List Int)), gSize (rdIter k s).1 ≤ 8 * k := by
            intro k s
            induction k with
            | zero => simp [rdIter, gSize]
            | succ k ih =>
              have := h7 (rdIter k s).2
              simp only [rdIter, gSize, List.map_append, List.sum_append, List.map_singleton, List.sum_singleton] at ih ⊢
              omega
          have e : l = (rdG s1).1 := by rw [hg]
          rw [e]
          unfold rdG
          split
          · simp [gSize]
          · have := hr (stNum s1).1 (stNum s1).2
            omega
        refine (found_any A3 m c3 l w3 hm r3 hgs).mono ?_
        rintro e w4 ⟨v4, rfl, _, k4⟩
        exact ⟨v4, _, rfl, k4⟩⟩
      clear hq hg hl2 hwh hm
      go_enter Try.func42, Try.ntmps42
      go_wp2_with (first
        | (go_at_call 46; refine HNEW.out.mono ?_; rintro e w1 ⟨br, gr, rfl, R1, B1, G1, K1⟩; have HN1 := As.mk (HNUM.out w1 br gr R1 B1 G1 K1); have HB1 := As.mk B1; clear R1 B1 G1 K1 HNEW)
        | (go_at_call 47; refine HN1.out.mono ?_; rintro e w2 ⟨rfl, gr2, R2, G2, K2⟩; have HS2 := As.mk (HRS.out w2 br gr2 R2 HB1.out G2 K2); clear R2 G2 K2 HN1)
        | (go_at_call 48; refine HS2.out.mono ?_; rintro e w3 ⟨A3, c3, lo3, rfl, O3, L3, R3, ⟨g3, D3⟩, K3⟩; have HK3 := As.mk K3; have HD3 := As.mk D3; have HF3 := As.mk (HF.out w3 A3 c3 R3); clear O3 L3 R3 D3 K3 HS2)
        | (go_at_call 10; refine HF3.out.mono ?_; rintro e w4 ⟨v4, z4, rfl, K4⟩; have HK4 : As (Kp [] w w4) := ⟨HK3.out.trans K4 (by simp)⟩; have HW4 := As.mk (reader.whole_any br g3 s2 w4 (HD3.out.kp K4 (by simp) (by simp))); rw [HWH.out] at HW4; clear K4 HF3)
        | (go_at_call 49; refine HW4.out.mono ?_; rintro e w5 ⟨rfl, rfl⟩; clear HW4))
      go_ret
      exact DoesPost.err HE.out (HM.out.kp HK4.out (by simp)) HK4.out
  · by_cases h2 : k0 = 2
    · subst h2
      exact does_two T lo b g ver sh done A n c xs w HM.out HOK.out HLO.out HT.out HN.out HR.out HNL.out hb HW.out s1 H0N.out
    · have HE : As (mDo ver sh xs = (ver, sh, 3)) := ⟨mDo_eq3 H0N.out h1 h2⟩
      have b1 : ((k0 : Int) == 1) = false := by simp; omega
      have b2 : ((k0 : Int) == 2) = false := by simp; omega
      clear h1 h2
      go_enter Try.func42, Try.ntmps42
      go_wp2_with (first
        | (go_at_call 46; refine HNEW.out.mono ?_; rintro e w1 ⟨br, gr, rfl, R1, B1, G1, K1⟩; have HN1 := As.mk (HNUM.out w1 br gr R1 B1 G1 K1); clear R1 B1 G1 K1 HNEW)
        | (go_at_call 47; refine HN1.out.mono ?_; rintro e w2 ⟨rfl, gr2, _, _, K2⟩; have HK2 := As.mk K2; clear K2 HN1))
      go_ret
      exact DoesPost.err HE.out (HM.out.kp HK2.out (by simp)) HK2.out
end Go.Proofs.Ytiabdeciadfiiaa.man
