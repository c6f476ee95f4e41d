/- The law CoordOrder: the walk. -/
import Derived.Test.YtdiljpdohmeceaaGreatOrC
import Derived.Test.YtdiljpdohmeceaaGreatBasr
import Derived.Deep.RegionLaw
import Derived.Deep.CutRange
import Derived.Deep.CutBlock
import Derived.Deep.QuietTactic
import Derived.BigQuiet
namespace Go.Proofs.YtdiljpdohmeceaaGreat.co
open Go.RowKit H O opk frame wir

/-- the jobs of the law -/
def orJobs (l1 : List ByteArray) (l2 : List (List Int)) : List Job := (l1.zip l2).map fun p => jPut p.1 p.2
theorem orJobs_get {l1 : List ByteArray} {l2 : List (List Int)} {k : Nat} (h1 : k < l1.length) (h2 : k < l2.length) : (orJobs l1 l2)[k]? = some (jPut l1[k] l2[k]) := by
  rw [orJobs, List.getElem?_map, List.getElem?_eq_getElem (by rw [List.length_zip]; omega), List.getElem_zip]
  rfl
theorem orJobs_len {l1 : List ByteArray} {l2 : List (List Int)} (h : l1.length ≤ l2.length) : (orJobs l1 l2).length = l1.length := by
  simp [orJobs]
  omega
/-- what the first loop has seen -/
def OrSeen (l1 : List ByteArray) (l2 : List (List Int)) (T k : Nat) : Prop := ∀ j, j < k → ∀ h1 : j < l1.length, (1 ≤ l1[j].size ∧ l1[j].size ≤ 64) ∧ ∀ h2 : j < l2.length, l2[j].length ≤ T
theorem OrSeen.next {l1 : List ByteArray} {l2 : List (List Int)} {T T' k : Nat} (h : OrSeen l1 l2 T k) (h1 : k < l1.length) (hk : 1 ≤ l1[k].size ∧ l1[k].size ≤ 64) (hT : T ≤ T') (h2 : ∀ h2 : k < l2.length, l2[k].length ≤ T') : OrSeen l1 l2 T' (k + 1) := by
  intro j hj h9
  rcases (by omega : j < k ∨ j = k) with e | rfl
  · have := h j e h9
    exact ⟨this.1, fun h8 => Nat.le_trans (this.2 h8) hT⟩
  · exact ⟨hk, h2⟩
theorem orPut_ok {l1 : List ByteArray} {l2 : List (List Int)} {k : Nat} (h : OrSeen l1 l2 4096 k) (hw : ∀ x ∈ l2, Wf x) (hk : l1.length = k) (q : Nat) : CsOk (lCfg 12 5 5) { newCs 2 with jobs := (orJobs l1 l2).take q } := by
  have h0 := newCs_ok (cf := lCfg 12 5 5) (lCfg_ok (by decide) (by decide) (by decide))
  refine ⟨h0.cfg, h0.wlen, h0.whom, fun j hj => ?_, h0.asks, fun _ => rfl, h0.few⟩
  obtain ⟨i, hi, rfl⟩ := List.getElem_of_mem (List.mem_of_mem_take hj)
  have hl : i < l1.length ∧ i < l2.length := by simp [orJobs] at hi; omega
  have hg := orJobs_get hl.1 hl.2
  rw [List.getElem?_eq_getElem hi] at hg
  cases hg2 : (orJobs l1 l2)[i] with
  | mk kd ky tx =>
    rw [hg2] at hg
    cases hg
    have hs := h i (by omega) hl.1
    exact ⟨by show 1 ≤ 1 ∧ 1 ≤ 4; omega, fun _ => hs.1, hs.2 hl.2, hw _ (List.getElem_mem hl.2)⟩

theorem OrC.tick0 {w wr : World} {id pat tr : Nat} {jobs : List Job} {P b k : Nat} {s : Cs} {L : Lay} (h : OrC w (lCfg id pat tr) P b s L wr) (ha : OrAt (lCfg id pat tr) jobs k s) (hj : s.jobs = []) (hk9 : k ≤ 1000) :
    Calls Tryz.prog 11 #[.pointer (some ⟨b, 0, none⟩)] wr fun e w5 => ∃ A c, e = .returned (.slice A 0 c) ∧ As (Kp [] w w5) := by
  have hc := tick_all [P] wr L _ s h.st ha.ok ha.wt (by rw [ha.ctx]; omega) (by rw [ha.ended]; omega) (by rw [ha.done]; simp)
  rw [h.hb] at hc
  refine hc.mono ?_
  rintro e w5 ⟨L2, v, rfl, r1, r2, r3, r4⟩
  have e0 : (co.tick (lCfg id pat tr) s).2 = [] := by unfold co.tick; rw [hj]
  rw [e0] at r2
  obtain ⟨A6, c6, rfl, _⟩ := r2.form
  exact ⟨A6, c6, rfl, ⟨h.kp.trans r4 (fun x hx => .inr (h.lo x hx))⟩⟩

set_option maxHeartbeats 8000000 in
set_option maxRecDepth 100000 in
theorem cord_law (w : World) (A : Option Addr) (n c : Nat) (l1 : List ByteArray) (hn : l1.length = n) (hr : Rd w A (l1.map Value.string)) (hn9 : n ≤ 100000000000000) (hs1 : ∀ x ∈ l1, x.size ≤ 140737488351232)
    (B : Option Addr) (m d : Nat) (l2 : List (List Int)) (hm : l2.length = m) (hr2 : Rs [] w B l2) (hm9 : m ≤ 100000000000000) (hw : ∀ x ∈ l2, Wf x) (hs2 : ∀ x ∈ l2, x.length ≤ 140737488351232) :
    Calls Tryz.prog 3 #[.slice A n c, .slice B m d] w fun e w' => e = .returned (.bool true) ∧ Below w.heap.size w w' := by
  have HKN := As.mk (fun wX => known_any wX)
  have HR := As.mk hr
  have HR2 := As.mk hr2
  have HN := As.mk hn
  have HM := As.mk hm
  have HS1 := As.mk hs1
  have HS2 := As.mk hs2
  have HW := As.mk hw
  clear hr hr2 hn hm hs1 hs2 hw
  go_enter Tryz.func3, Tryz.ntmps3
  go_wp2_with fail
  go_loopw [5, 6] (fun v5 v6 wr => ∃ T k : Nat, v5 = .int .i64 (T : Int) ∧ v6 = .int .i64 (k : Int) ∧ k ≤ n ∧ T ≤ 1000000000000000 ∧ As (Kp [] w wr ∧ OrSeen l1 l2 T k)) (fun _ i _ => n - (intOf i).toNat)
  case atStart => exact ⟨0, 0, rfl, rfl, by omega, by omega, ⟨Kp.refl _ _, fun j hj => by omega⟩⟩
  case round =>
    obtain ⟨T, k, rfl, rfl, hk, hT, HS⟩ := hrel
    by_cases hgo : k < n ∧ T ≤ 6000
    · obtain ⟨hlt, hT6⟩ := hgo
      have i1 : (k : Int) < (n : Int) := by omega
      have i2 : (T : Int) ≤ 6000 := by omega
      have hlx : k < l1.length := by rw [HN.out]; exact hlt
      obtain ⟨key, hkey⟩ : ∃ x, l1[k] = x := ⟨_, rfl⟩
      obtain ⟨a, rfl, d0⟩ := HR.out k (.string key) (by simp [hlx, hkey])
      have d1 := HS.out.1.cell d0 (by simp)
      obtain ⟨kl, hkl⟩ : ∃ x, key.size = x := ⟨_, rfl⟩
      have hkl9 : kl ≤ 140737488351232 := by rw [← hkl, ← hkey]; exact HS1.out _ (List.getElem_mem hlx)
      obtain ⟨T1, hT1⟩ : ∃ T1, T1 = T + 5 + kl := ⟨_, rfl⟩
      have HKK := As.mk (show l1[k].size = kl by rw [hkey, hkl])
      by_cases hlm : k < m
      · have j1 : (k : Int) < (m : Int) := by omega
        have hlx2 : k < l2.length := by rw [HM.out]; exact hlm
        obtain ⟨b, Aj, cj, rfl, -, e0, hcj, hnj, rj⟩ := HR2.out k hlx2
        have e1 := HS.out.1.cell e0 (by simp)
        obtain ⟨nx, hnx⟩ : ∃ nx, l2[k].length = nx := ⟨_, rfl⟩
        have hnx9 : nx ≤ 140737488351232 := by rw [← hnx]; exact HS2.out _ (List.getElem_mem hlx2)
        rw [hnx] at e1
        have HLL := As.mk hnx
        obtain ⟨T2, hT2⟩ : ∃ T2, T2 = T1 + nx := ⟨_, rfl⟩
        have a1 : (T : Int) + 5 + (kl : Int) = (T1 : Int) := by omega
        have a2 : (T1 : Int) + (nx : Int) = (T2 : Int) := by omega
        have hT29 : T2 ≤ 1000000000000000 := by omega
        have HTT : As (T ≤ T2 ∧ nx ≤ T2) := ⟨by omega⟩
        clear rj hnj hcj e0 d0 hnx hkey hT1 hT2 hnx9 hkl9
        by_cases k1 : (kl : Int) < 1
        · have HK := As.mk HS.out.1
          clear HS
          go_wp2_with (go_at_call 7; refine (HKN.out _).mono ?_; rintro e w1 ⟨rfl, k1⟩; have HK1 := As.mk k1; clear k1 HKN)
          go_ret
          exact ⟨rfl, (HK.out.trans HK1.out (by simp)).below⟩
        by_cases k2 : 64 < (kl : Int)
        · have HK := As.mk HS.out.1
          clear HS
          go_wp2_with (go_at_call 7; refine (HKN.out _).mono ?_; rintro e w1 ⟨rfl, k1⟩; have HK1 := As.mk k1; clear k1 HKN)
          go_ret
          exact ⟨rfl, (HK.out.trans HK1.out (by simp)).below⟩
        go_wp2_with fail
        go_roundw
        case rel => exact ⟨T2, k + 1, by go_num, by go_num, by omega, hT29, ⟨HS.out.1, HS.out.2.next hlx (by rw [HKK.out]; omega) HTT.out.1 (fun _ => by rw [HLL.out]; exact HTT.out.2)⟩⟩
        case measure => simp [intOf]; omega
      · have j1 : ¬ (k : Int) < (m : Int) := by omega
        have a1 : (T : Int) + 5 + (kl : Int) = (T1 : Int) := by omega
        have hT19 : T1 ≤ 1000000000000000 := by omega
        have HTT : As (T ≤ T1) := ⟨by omega⟩
        clear d0 hkey hT1 hkl9
        by_cases k1 : (kl : Int) < 1
        · have HK := As.mk HS.out.1
          clear HS
          go_wp2_with (go_at_call 7; refine (HKN.out _).mono ?_; rintro e w1 ⟨rfl, k1⟩; have HK1 := As.mk k1; clear k1 HKN)
          go_ret
          exact ⟨rfl, (HK.out.trans HK1.out (by simp)).below⟩
        by_cases k2 : 64 < (kl : Int)
        · have HK := As.mk HS.out.1
          clear HS
          go_wp2_with (go_at_call 7; refine (HKN.out _).mono ?_; rintro e w1 ⟨rfl, k1⟩; have HK1 := As.mk k1; clear k1 HKN)
          go_ret
          exact ⟨rfl, (HK.out.trans HK1.out (by simp)).below⟩
        go_wp2_with fail
        go_roundw
        case rel => exact ⟨T1, k + 1, by go_num, by go_num, by omega, hT19, ⟨HS.out.1, HS.out.2.next hlx (by rw [HKK.out]; omega) HTT.out (fun h9 => absurd h9 (by rw [HM.out]; exact hlm))⟩⟩
        case measure => simp [intOf]; omega
    · by_cases hbad : 4096 < T ∨ 30 < n ∨ m < n
      · have HK := As.mk HS.out.1
        clear HS
        have D : (T : Int) ≤ 6000 ∧ ¬ (k : Int) < (n : Int) ∨ (6000 < (T : Int) ∧ ¬ (k : Int) < (n : Int)) ∨ ((k : Int) < (n : Int) ∧ ¬ (T : Int) ≤ 6000) := by omega
        have E : (4096 : Int) < (T : Int) ∨ (¬ (4096 : Int) < (T : Int) ∧ (30 : Int) < (n : Int)) ∨ (¬ (4096 : Int) < (T : Int) ∧ ¬ (30 : Int) < (n : Int) ∧ (m : Int) < (n : Int)) := by omega
        clear hgo hbad
        rcases D with ⟨x1, x2⟩ | ⟨x1, x2⟩ | ⟨x1, x2⟩ <;> rcases E with y1 | ⟨y1, y2⟩ | ⟨y1, y2, y3⟩
        all_goals first
          | (exfalso; omega)
          | (go_wp2_with (go_at_call 7; refine (HKN.out _).mono ?_; rintro e w1 ⟨rfl, k1⟩; have HK1 := As.mk k1; clear k1 HKN)
             go_ret
             exact ⟨rfl, (HK.out.trans HK1.out (by simp)).below⟩)
      · obtain rfl : k = n := by omega
        have i0 : ¬ (k : Int) < (k : Int) := by omega
        have i1 : ¬ (4096 : Int) < (T : Int) := by omega
        have i2 : ¬ (30 : Int) < (k : Int) := by omega
        have i3 : ¬ (m : Int) < (k : Int) := by omega
        have hk30 : k ≤ 30 := by omega
        have hkm : k ≤ m := by omega
        have i4 : (T : Int) ≤ 6000 := by omega
        have HSX := As.mk (start_good 12 5 5 wr (by decide) (by decide) (by decide))
        have HSE := As.mk (show OrSeen l1 l2 4096 k from fun j hj h1 => by
          have := HS.out.2 j hj h1
          exact ⟨this.1, fun h2 => by have := this.2 h2; omega⟩)
        have HK0 := As.mk HS.out.1
        clear HS hgo hbad
        go_upto_region 15 with (first
          | (go_at_call 8; refine HSX.out.mono ?_; rintro e w1 ⟨P, L, M, rfl, HP, HLO⟩; have pc1 := blk_cell (HP.out [] (by simp)).hd 0 rfl; clear HSX)
          | fail)
        clear i1 i2 i3 i4
        obtain ⟨b, hb⟩ : ∃ b, L.b = b := ⟨_, rfl⟩
        have HI0 : As (OrC w (lCfg 12 5 5) P b (newCs 2) L w1) := ⟨by
          have h := HP.out [] (by simp)
          have hz := HK0.out.size
          refine ⟨h.c.kp (Kp.refl [] w1) (by simp) (fun x hx => ?_), hb, fun x hx => Nat.le_trans hz (HLO.out.1 x (by simp [hx])), HK0.out.trans HLO.out.2 (by simp), by rw [← hb]; exact blk_cell h.hd 0 rfl⟩
          exact .inl (by simp at hx; simp [hx])⟩
        clear HP HLO hb pc1 HK0
        obtain ⟨wo, rfl⟩ : ∃ wo, wo = wr := ⟨_, rfl⟩
        go_wp2_with fail
        go_loopw [9] (fun v9 wr => ∃ (q : Nat) (L : Lay), v9 = .int .i64 (q : Int) ∧ q ≤ k ∧ As (OrC w (lCfg 12 5 5) P b { newCs 2 with jobs := (orJobs l1 l2).take q } L wr)) (fun i _ => k - (intOf i).toNat)
        case atStart => exact ⟨0, L, rfl, by omega, HI0⟩
        case round =>
          clear HI0
          obtain ⟨q, Lq, rfl, hq, HI⟩ := hrel
          by_cases hqk : q < k
          · have j1 : (q : Int) < (k : Int) := by omega
            have j2 : (q : Int) < (m : Int) := by omega
            have hlx : q < l1.length := by rw [HN.out]; exact hqk
            have hlx2 : q < l2.length := by rw [HM.out]; omega
            obtain ⟨key, hkey⟩ : ∃ x, l1[q] = x := ⟨_, rfl⟩
            obtain ⟨a, rfl, d0⟩ := HR.out q (.string key) (by simp [hlx, hkey])
            have d1 := HI.out.kp.cell d0 (by simp)
            obtain ⟨b2, Aj, cj, rfl, -, e0, hcj, hnj, rj⟩ := HR2.out q hlx2
            have e1 := HI.out.kp.cell e0 (by simp)
            obtain ⟨text, htx⟩ : ∃ x, l2[q] = x := ⟨_, rfl⟩
            rw [htx] at e1 rj hcj
            obtain ⟨nx, hnx⟩ : ∃ nx, text.length = nx := ⟨_, rfl⟩
            rw [hnx] at e1 hcj
            have pc := HI.out.pc
            have HPUT : As (∀ wX, Kp [] wr wX → Calls Tryz.prog 9 #[.pointer (some ⟨b, 0, none⟩), .string key, .slice Aj nx cj] wX fun e w2 => e = .returned (.tuple #[.int .i64 (q : Int), .int .i64 0]) ∧ As (∃ L2, OrC w (lCfg 12 5 5) P b { newCs 2 with jobs := (orJobs l1 l2).take (q + 1) } L2 w2)) := ⟨fun wX kX => by
              have hs := HSE.out q hqk hlx
              have hj : nextJ { newCs 2 with jobs := (orJobs l1 l2).take q } = q := by
                show 0 + ((orJobs l1 l2).take q).length = q
                rw [List.length_take, orJobs_len (by rw [HN.out, HM.out]; omega), HN.out]
                omega
              have hp := (HI.out.kp0 kX).put (orPut_ok HSE.out HW.out HN.out q) key Aj nx cj text hnx rj.rd hnj (by rw [← hkey]; exact hs.1) (by rw [← hnx, ← htx]; exact hs.2 hlx2) hj (by omega)
              refine hp.mono ?_
              rintro e w2 ⟨rfl, _, HZ⟩
              have e9 : (orJobs l1 l2).take (q + 1) = (orJobs l1 l2).take q ++ [jPut key text] := by
                have hg := orJobs_get hlx hlx2
                rw [hkey, htx] at hg
                obtain ⟨h8, h9⟩ := List.getElem?_eq_some_iff.1 hg
                rw [take_succ' _ q h8, h9]
              rw [e9]
              exact ⟨rfl, HZ⟩⟩
            have HHI := As.mk HI.out.kp
            clear rj hnj hcj e0 d0 hnx hkey htx HI
            go_upto_region 18 with fail
            go_cut [10, 11] from 99 to 114 (fun v10 v11 wx => ∃ w2, w2 = wx ∧ v10 = .int .i64 (q : Int) ∧ v11 = .int .i64 0 ∧ As (∃ L2, OrC w (lCfg 12 5 5) P b { newCs 2 with jobs := (orJobs l1 l2).take (q + 1) } L2 w2))
            case first =>
              go_region_law (go_simp; go_at_call 9; refine (HPUT.out _ (by first | exact Kp.refl _ _ | exact (Kp.refl [] wr).drewN _)).mono ?_; rintro e w2 ⟨rfl, HZ⟩)
              all_goals
                go_wp2_with fail
                go_meet
                exact ⟨_, rfl, rfl, rfl, HZ⟩
            case rest =>
              obtain ⟨w2, rfl, rfl, rfl, HZ⟩ := hcut
              obtain ⟨L2, HZ⟩ := HZ.out
              have HZ := As.mk HZ
              clear HPUT
              go_wp2_with fail
              go_roundw
              case rel => exact ⟨q + 1, L2, by go_num, by omega, HZ⟩
              case measure => simp [intOf]; omega
          · obtain rfl : q = k := by omega
            have hjl : (orJobs l1 l2).length = q := by rw [orJobs_len (by rw [HN.out, HM.out]; omega), HN.out]
            have HA0 : As (OrAt (lCfg 12 5 5) (orJobs l1 l2) 0 { newCs 2 with jobs := (orJobs l1 l2).take q }) := ⟨⟨by show (orJobs l1 l2).take q = (orJobs l1 l2).drop 0; rw [List.take_of_length_le (by omega)]; rfl, rfl, rfl, rfl, rfl, orPut_ok HSE.out HW.out HN.out q⟩⟩
            have j1 : ¬ (q : Int) < (q : Int) := by omega
            have HJL := As.mk hjl
            clear hjl
            obtain ⟨wp, rfl⟩ : ∃ wp, wp = wr := ⟨_, rfl⟩
            go_wp2_with fail
            go_loopw [12] (fun v12 wr => ∃ (i : Nat) (s : Cs) (L : Lay), v12 = .int .i64 (i : Int) ∧ i ≤ q ∧ As (OrC w (lCfg 12 5 5) P b s L wr ∧ OrAt (lCfg 12 5 5) (orJobs l1 l2) i s)) (fun i _ => q - (intOf i).toNat)
            case atStart => exact ⟨0, _, _, rfl, by omega, ⟨HI.out, HA0.out⟩⟩
            case round =>
              clear HI HA0
              obtain ⟨i, s, Ls, rfl, hi, HC⟩ := hrel
              have pc := HC.out.1.pc
              by_cases hiq : i < q
              · have j2 : (i : Int) < (q : Int) := by omega
                have j3 : (i : Int) < (m : Int) := by omega
                have hlx : i < l1.length := by rw [HN.out]; exact hiq
                have hlx2 : i < l2.length := by rw [HM.out]; omega
                obtain ⟨key, hkey⟩ : ∃ x, l1[i] = x := ⟨_, rfl⟩
                obtain ⟨a, rfl, d0⟩ := HR.out i (.string key) (by simp [hlx, hkey])
                obtain ⟨b2, Aj, cj, rfl, -, e0, hcj, hnj, rj⟩ := HR2.out i hlx2
                obtain ⟨text, htx⟩ : ∃ x, l2[i] = x := ⟨_, rfl⟩
                rw [htx] at e0 rj hcj
                obtain ⟨nx, hnx⟩ : ∃ nx, text.length = nx := ⟨_, rfl⟩
                rw [hnx] at e0 hcj
                have hsn := HSE.out i hiq hlx
                have hks : 1 ≤ key.size ∧ key.size ≤ 64 := by rw [← hkey]; exact hsn.1
                have hts : text.length ≤ 4096 := by rw [← htx]; exact hsn.2 hlx2
                have htw : Wf text := by rw [← htx]; exact HW.out _ (List.getElem_mem hlx2)
                obtain ⟨y1, hy1⟩ : ∃ y : Int, (i : Int) + 1 = y := ⟨_, rfl⟩
                have hy9 : 0 ≤ y1 ∧ y1 ≤ 1000000 := by omega
                have hy2 : ((i + 1 : Nat) : Int) = y1 := by omega
                obtain ⟨z, hz⟩ : ∃ z, bits .and .i64 (i : Int) 1 = z := ⟨_, rfl⟩
                have hz1 : z = 0 ∨ z = 1 := by rw [← hz]; exact and_bit _
                obtain ⟨LF, hLF⟩ : ∃ x : Int, (q : Int) - (i : Int) = x := ⟨_, rfl⟩
                have HLF := As.mk (HC.out.1.left (l := LF) (by rw [HC.out.2.jobs, List.length_drop, HJL.out]; omega))
                have HTK : As (Calls Tryz.prog 11 #[.pointer (some ⟨b, 0, none⟩)] wr fun e w5 => ∃ g2 c2 dd A5 F c5 sh, e = .returned (.slice (some ⟨g2, 0, none⟩) 1 c2) ∧ w5.cell? ⟨g2, 1, none⟩ = some (.int .i64 dd) ∧ w5.cell? ⟨g2, 2, none⟩ = some (.slice A5 F c5) ∧ w5.cell? ⟨P, 0, none⟩ = some (.pointer (some ⟨b, 0, none⟩)) ∧
                    As (Kp [] w w5 ∧ (0 ≤ sh ∧ sh < 2) ∧ OrM w 12 5 5 (orJobs l1 l2) P b i dd A5 F c5 (fEnc (pay 113 [1, y1, sh] (opBytes 1 12 y1 key text))) w5)) := ⟨by
                  have hg := orJobs_get hlx hlx2
                  rw [hkey, htx] at hg
                  refine (HC.out.1.tick HC.out.2 hg (by omega)).mono ?_
                  rintro e w5 ⟨g2, c2, dd, A5, F, c5, sh, rfl, m1, m2, m3, HZ⟩
                  rw [hy2, hy1] at HZ
                  obtain ⟨s1, L2, hz1, _⟩ := HZ.out.2.st
                  exact ⟨g2, c2, dd, A5, F, c5, sh, rfl, m1, m2, m3, ⟨hz1.kp, HZ.out⟩⟩⟩
                have hos := op_small (a := 12) (b := y1) hks hts htw
                have HDX : As (∀ w5 A5 F c5 sh dd, 0 ≤ sh ∧ sh < 2 → OrM w 12 5 5 (orJobs l1 l2) P b i dd A5 F c5 (fEnc (pay 113 [1, y1, sh] (opBytes 1 12 y1 key text))) w5 → Calls Tryz.prog 12 #[.slice A5 F c5] w5 fun e w' => ∃ Ad nd cd, e = .returned (.tuple #[.agg #[.int .i64 1, .int .i64 y1, .int .i64 sh, .slice Ad nd cd], .int .i64 0]) ∧ As (Own 5 .u8 w' w5.heap.size (.slice Ad nd cd) (opBytes 1 12 y1 key text) ∧ Kp [] w5 w')) := ⟨fun w5 A5 F c5 sh dd h1 h2 => or_dec1 h2.len h2.rd h2.le hy9 h1 hos⟩
                have HDY : As (∀ wX Ad nd cd lo, Own 5 .u8 wX lo (.slice Ad nd cd) (opBytes 1 12 y1 key text) → Calls Tryz.prog 13 #[.slice Ad nd cd] wX fun e w' => ∃ At ct, e = .returned (.tuple #[.agg #[.int .i64 1, .int .i64 12, .int .i64 y1, .string key, .slice At nx ct], .int .i64 0]) ∧ As (Rd w' At (iv .u8 text) ∧ Kp [] wX w')) := ⟨fun wX Ad nd cd lo o => by
                  have := or_dec2 o hy9 hks hts htw
                  rwa [hnx] at this⟩
                have HSM : As (∀ wX At ct, Rd wX At (iv .u8 text) → Kp [] w wX → Calls Tryz.prog 14 #[.slice At nx ct, .slice Aj nx cj] wX fun e w' => e = .returned (.bool true) ∧ ∃ k, w' = wX.drewN k) := ⟨fun wX At ct r k => by
                  have := haystacklaw24.same_any At Aj nx ct nx cj text text wX hnx hnx r (k.rd_new rj.rd (by simp)) (by omega)
                  rwa [decide_eq_true rfl] at this⟩
                have HE1 : As (∀ w8 wX bb, Kp [] w8 wX → bb = wX.heap.size → _) := ⟨fun w8 wX bb k e => by
                  have := or_enc1 (y := z) w8 wX k
                  rw [← e] at this
                  exact this⟩
                have HE2 : As (∀ wX A1 n1 c1, Rd wX A1 (iv .u8 (repBytes 0 [z])) ∧ (repBytes 0 [z]).length = n1 ∧ (A1 = none → c1 = 0) → _) := ⟨fun wX A1 n1 c1 h => or_enc2 (k := y1) h.2.1 h.1 h.2.2 hy9⟩
                have HHE : As (∀ w9 dd A5 F c5 fr, OrM w 12 5 5 (orJobs l1 l2) P b i dd A5 F c5 fr w9 → ∀ A9 n9 c9, (fEnc (pay 114 [y1, 0, 0] (repBytes 0 [z]))).length = n9 → Rd w9 A9 (iv .u8 (fEnc (pay 114 [y1, 0, 0] (repBytes 0 [z])))) → n9 ≤ c9 →
                    Calls Tryz.prog 17 #[.pointer (some ⟨b, 0, none⟩), .agg #[.int .i64 dd, .int .i64 12, .slice A9 n9 c9]] w9 fun e w6 => ∃ A6 c6, e = .returned (.slice A6 0 c6) ∧ w6.cell? ⟨P, 0, none⟩ = some (.pointer (some ⟨b, 0, none⟩)) ∧
                      As (∃ s2 L3, OrC w (lCfg 12 5 5) P b s2 L3 w6 ∧ s2.done = [⟨i, 0, decide (z = 1), false, [], []⟩] ∧ OrAt (lCfg 12 5 5) (orJobs l1 l2) (i + 1) { s2 with done := [] })) := ⟨fun w9 dd A5 F c5 fr h A9 n9 c9 h1 h2 h3 => by
                  have := h.hear hz1 A9 n9 c9 (by rw [hy2]; exact h1) (by rw [hy2]; exact h2) h3
                  exact this⟩
                have HD0 := As.mk d0
                have HE0 := As.mk e0
                clear hkey htx hnx hsn hks hts htw hos rj hnj hcj e0 d0 HC hlx hlx2
                go_upto_region 30 with (first
                  | (go_at_call 10; refine HLF.out.mono ?_; rintro e w4 ⟨rfl, rfl⟩; clear HLF)
                  | (go_at_call 11; refine HTK.out.mono ?_; rintro e w5 ⟨g2, c2, dd, A5, F, c5, sh, rfl, m1, m2, pc5, HM5⟩; have HD1 := As.mk (HDX.out w5 _ _ _ _ _ HM5.out.2.1 HM5.out.2.2); clear HTK pc HDX)
                  | (go_at_call 12; refine HD1.out.mono ?_; rintro e w6 ⟨Ad, nd, cd, rfl, H6⟩; clear HD1 m2)
                  | fail)
                obtain ⟨R, hR⟩ : ∃ R, w6.heap.size = R := ⟨_, rfl⟩
                have HD2 : As (Calls Tryz.prog 13 #[.slice Ad nd cd] (w6.alloc (.cells #[.int .i64 1, .int .i64 y1, .int .i64 sh, .slice Ad nd cd] 40)) fun e w7 => ∃ At ct, e = .returned (.tuple #[.agg #[.int .i64 1, .int .i64 12, .int .i64 y1, .string key, .slice At nx ct], .int .i64 0]) ∧
                    As (Rd w7 At (iv .u8 text) ∧ Kp [] w5 w7 ∧ w7.cell? ⟨R, 0, none⟩ = some (.int .i64 1) ∧ w7.cell? ⟨R, 1, none⟩ = some (.int .i64 y1))) := ⟨by
                  refine (HDY.out _ _ _ _ _ (H6.out.1.kp ((Kp.refl [] w6).alloc _) (by simp))).mono ?_
                  rintro e w7 ⟨At, ct, rfl, H7⟩
                  have hq := heap_alloc_new w6 (.cells #[.int .i64 1, .int .i64 y1, .int .i64 sh, .slice Ad nd cd] 40)
                  rw [hR] at hq
                  have hq7 := H7.out.2.blk hq (by simp)
                  exact ⟨At, ct, rfl, ⟨H7.out.1, (H6.out.2.alloc _).trans H7.out.2 (by simp), blk_cell hq7 0 rfl, blk_cell hq7 1 rfl⟩⟩⟩
                clear HDY
                go_upto_region 31 with (first
                  | (go_at_call 13; refine HD2.out.mono ?_; rintro e w7 ⟨At, ct, rfl, H7⟩; clear HD2)
                  | fail)
                obtain ⟨R7, hR7⟩ : ∃ R7, w7.heap.size = R7 := ⟨_, rfl⟩
                obtain ⟨W8, hW8⟩ : ∃ W8, w7.alloc (.cells #[.int .i64 1, .int .i64 12, .int .i64 y1, .string key, .slice At nx ct] 46) = W8 := ⟨_, rfl⟩
                have k8 : Kp [] w7 W8 := by rw [← hW8]; exact (Kp.refl [] w7).alloc _
                have hq8 : W8.heap[R7]? = some (.cells #[.int .i64 1, .int .i64 12, .int .i64 y1, .string key, .slice At nx ct] 46 (0, 0)) := by rw [← hW8, ← hR7]; exact heap_alloc_new w7 _
                have k08 : Kp [] w W8 := (HM5.out.1.trans H7.out.2.1 (by simp)).trans k8 (by simp)
                have HM8 := As.mk (HM5.out.2.2.kp0 (H7.out.2.1.trans k8 (by simp)))
                have HK8 := As.mk k08
                have HRD := As.mk (k8.rd_new H7.out.1 (by simp))
                have r0 := k8.cell H7.out.2.2.1 (by simp)
                have r1 := k8.cell H7.out.2.2.2 (by simp)
                have r2 := blk_cell hq8 1 rfl
                have r3 := blk_cell hq8 2 rfl
                have r4 := blk_cell hq8 3 rfl
                have r5 := blk_cell hq8 4 rfl
                have r6 := k08.cell HD0.out (by simp)
                have r7 := k08.cell HE0.out (by simp)
                have r8 := k8.cell (H7.out.2.1.cell m1 (by simp)) (by simp)
                have r9 := k8.cell (H7.out.2.1.cell pc5 (by simp)) (by simp)
                rw [hW8]
                clear hq8 k08 k8 hW8 m1 pc5 HM5 H7 H6
                go_quiet ((go_at_call 14; refine Calls.quiet_of (HSM.out _ _ _ (by first | exact HRD.out | exact ((Kp.refl [] _).drewN _).rd_new HRD.out (by simp)) (by first | exact HK8.out | exact HK8.out.drewN _))))
                clear r2 r3 r4 r5 r6 r7
                have HR9 : As (∀ wX, Kp [] W8 wX → (wX.cell? ⟨R, 1, none⟩ = some (.int .i64 y1)) ∧ wX.cell? ⟨g2, 1, none⟩ = some (.int .i64 dd) ∧ wX.cell? ⟨P, 0, none⟩ = some (.pointer (some ⟨b, 0, none⟩))) := ⟨fun wX kX => ⟨kX.cell r1 (by simp), kX.cell r8 (by simp), kX.cell r9 (by simp)⟩⟩
                have HE3 : As (∀ wX bb, Kp [] W8 wX → bb = wX.heap.size → Calls Tryz.prog 16 #[.int .i64 0, .slice (some ⟨bb, 0, none⟩) 1 1] (wX.alloc (.cells #[.int .i64 z] 3)) fun e w' => ∃ A1 n1 c1, e = .returned (.slice A1 n1 c1) ∧ w'.cell? ⟨R, 1, none⟩ = some (.int .i64 y1) ∧ As (Rd w' A1 (iv .u8 (repBytes 0 [z])) ∧ (repBytes 0 [z]).length = n1 ∧ (A1 = none → c1 = 0)) ∧ As (Kp [] W8 w')) := ⟨fun wX bb k e => by
                  subst e
                  refine (or_enc1 (y := z) wX wX (Kp.refl [] wX)).mono ?_
                  rintro e w' ⟨A1, n1, c1, rfl, h⟩
                  have kk := k.trans h.out.2.2.2 (by simp)
                  exact ⟨A1, n1, c1, rfl, (HR9.out _ kk).1, ⟨h.out.1, h.out.2.1, h.out.2.2.1⟩, ⟨kk⟩⟩⟩
                have HE4 : As (∀ wX A1 n1 c1, Kp [] W8 wX → As (Rd wX A1 (iv .u8 (repBytes 0 [z])) ∧ (repBytes 0 [z]).length = n1 ∧ (A1 = none → c1 = 0)) → Calls Tryz.prog 15 #[.agg #[.int .i64 y1, .int .i64 0, .int .i64 (-1), .slice A1 n1 c1]] wX fun e w' => ∃ A2 n2 c2, e = .returned (.tuple #[.slice A2 n2 c2, .int .i64 0]) ∧ w'.cell? ⟨R, 1, none⟩ = some (.int .i64 y1) ∧
                    As (Rd w' A2 (iv .u8 (fEnc (pay 114 [y1, 0, 0] (repBytes 0 [z])))) ∧ (fEnc (pay 114 [y1, 0, 0] (repBytes 0 [z]))).length = n2 ∧ n2 ≤ c2 ∧ Kp [] W8 w')) := ⟨fun wX A1 n1 c1 k h => by
                  refine (or_enc2 (k := y1) h.out.2.1 h.out.1 h.out.2.2 hy9).mono ?_
                  rintro e w' ⟨A2, n2, c2, rfl, h2⟩
                  have kk := k.trans h2.out.2.2.2 (by simp)
                  exact ⟨A2, n2, c2, rfl, (HR9.out _ kk).1, ⟨h2.out.1, h2.out.2.1, h2.out.2.2.1, kk⟩⟩⟩
                clear HE1 HE2 r0 r1 r8 r9
                go_upto_region 33 with fail
                go_region_held3 (fun wX => wX.cell? ⟨R, 1, none⟩ = some (.int .i64 y1)) (first | exact (HR9.out _ ((Kp.refl [] W8).drewN _)).1 | exact (HR9.out _ ((Kp.refl [] W8).drewN _).drew).1 | exact (HR9.out _ (((Kp.refl [] W8).drewN _).alloc _)).1 | exact (HR9.out _ (((Kp.refl [] W8).drewN _).drew.alloc _)).1 | exact (HR9.out _ ((((Kp.refl [] W8).drewN _).drewN _).alloc _)).1 | go_keep)
                  (first
                    | (go_at_call 16; refine (HE3.out _ _ (by first | exact ((Kp.refl [] W8).drewN _).drew | exact ((Kp.refl [] W8).drewN _) | exact ((Kp.refl [] W8).drewN _).drewN _) (by simp)).mono ?_; rintro e w9 ⟨A1, n1, c1, rfl, r9, H9, K9⟩)
                    | (go_at_call 15; refine (HE4.out _ _ _ _ K9.out H9).mono ?_; rintro e w10 ⟨A2, n2, c2, rfl, r10, H10⟩))
                have hR10 := HR9.out _ H10.out.2.2.2
                have HM10 := As.mk (HM8.out.kp0 H10.out.2.2.2)
                have HH : As (∀ wX, Kp [] w10 wX → Calls Tryz.prog 17 #[.pointer (some ⟨b, 0, none⟩), .agg #[.int .i64 dd, .int .i64 12, .slice A2 n2 c2]] wX fun e w6 => ∃ A6 c6, e = .returned (.slice A6 0 c6) ∧ w6.cell? ⟨P, 0, none⟩ = some (.pointer (some ⟨b, 0, none⟩)) ∧
                      As (∃ s2 L3, OrC w (lCfg 12 5 5) P b s2 L3 w6 ∧ s2.done = [⟨i, 0, decide (z = 1), false, [], []⟩] ∧ OrAt (lCfg 12 5 5) (orJobs l1 l2) (i + 1) { s2 with done := [] })) := ⟨fun wX kX => HHE.out _ _ _ _ _ _ (HM10.out.kp0 kX) _ _ _ H10.out.2.1 (kX.rd_new H10.out.1 (by simp)) H10.out.2.2.1⟩
                have g1 := hR10.2.1
                have g0 := hR10.2.2
                clear hR10 HHE HE3 HE4 HR9 HM8 HM10 H9 r9 r10 HSM HRD K9 hR7 hR
                go_upto_region 34 with fail
                go_region_law (go_simp; go_at_call 17; refine (HH.out _ (by first | exact Kp.refl _ _ | exact (Kp.refl [] w10).drewN _)).mono ?_; rintro e w11 ⟨A6, c6, rfl, pc11, HZ⟩)
                all_goals
                  clear g0 g1 HH H10 HK8
                  obtain ⟨s2, L3, hs1, hs2, hs3⟩ := HZ.out
                  have HDN := As.mk (hs1.done hs2)
                  have HS3 := As.mk hs3
                  clear hs1 hs2 hs3 HZ
                  rcases hz1 with h0 | h0 <;> subst h0
                  · rw [show decide ((0 : Int) = 1) = false from rfl] at HDN
                    go_wp2_with (go_at_call 18; refine HDN.out.mono ?_; rintro e w12 ⟨g3, c3, rfl, d0, d1, d2, pc12, HZ2⟩; clear HDN pc11)
                    obtain ⟨L4, hz4⟩ := HZ2.out
                    go_roundw
                    case rel => exact ⟨i + 1, _, L4, by rw [hy2], by omega, ⟨⟨hz4, HS3.out⟩⟩⟩
                    case measure => simp [intOf]; omega
                  · rw [show decide ((1 : Int) = 1) = true from rfl] at HDN
                    go_wp2_with (go_at_call 18; refine HDN.out.mono ?_; rintro e w12 ⟨g3, c3, rfl, d0, d1, d2, pc12, HZ2⟩; clear HDN pc11)
                    obtain ⟨L4, hz4⟩ := HZ2.out
                    go_roundw
                    case rel => exact ⟨i + 1, _, L4, by rw [hy2], by omega, ⟨⟨hz4, HS3.out⟩⟩⟩
                    case measure => simp [intOf]; omega
              · obtain rfl : i = q := by omega
                have hjn : s.jobs = [] := by rw [HC.out.2.jobs, List.drop_eq_nil_of_le (by rw [HJL.out]; omega)]
                have HLF := As.mk (HC.out.1.left (l := 0) (by rw [hjn]; rfl))
                have HTK := As.mk (HC.out.1.tick0 HC.out.2 hjn (by omega))
                have j2 : ¬ (i : Int) < (i : Int) := by omega
                clear hjn HC
                go_wp2_with (first
                  | (go_at_call 10; refine HLF.out.mono ?_; rintro e w4 ⟨rfl, rfl⟩; clear HLF)
                  | (go_at_call 11; refine HTK.out.mono ?_; rintro e w5 ⟨A5, c5, rfl, HK5⟩; clear HTK pc)
                  | (go_at_call 7; refine (HKN.out _).mono ?_; rintro e w7 ⟨rfl, k7⟩; have HK7 := As.mk k7; clear k7 HKN)
                  | fail)
                go_ret
                exact ⟨rfl, (HK5.out.trans HK7.out (by simp)).below⟩
theorem cord_row (w : World) (a : Option Addr) (n c : Nat) (x : List ByteArray) (hl : x.length = n) (hr : Rd w a (x.map Value.string)) (_ : n ≤ c) (_ : c ≤ 9223372036854775807) (_ : a = none → c = 0) (zk : ∀ y ∈ x, y.size ≤ 140737488351232) (hz : n * 16 ≤ 140737488351232)
    (a2 : Option Addr) (n2 c2 : Nat) (x2 : List (List Int)) (hl2 : x2.length = n2) (hr2 : Rs [] w a2 x2) (_ : n2 ≤ c2) (_ : c2 ≤ 9223372036854775807) (_ : a2 = none → c2 = 0) (hw2 : ∀ y ∈ x2, ∀ z ∈ y, (Lit.int .u8 z).wf = true) (zk2 : ∀ y ∈ x2, y.length ≤ 140737488351232) (hz2 : n2 * 24 ≤ 140737488351232) :
    Calls Tryz.prog 3 #[.slice a n c, .slice a2 n2 c2] w fun e w' => e = .returned (.bool true) ∧ Below w.heap.size w w' :=
  cord_law w a n c x hl hr (by omega) zk a2 n2 c2 x2 hl2 hr2 (by omega) (fun y hy z hz => wf_u8 (hw2 y hy z hz)) zk2
end Go.Proofs.YtdiljpdohmeceaaGreat.co
