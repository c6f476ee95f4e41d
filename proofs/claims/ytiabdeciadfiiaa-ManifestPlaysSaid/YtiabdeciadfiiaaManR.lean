/- The document's Group, List, ReadList (chapter 15), lists, readLists, Found, Move (chapter 21). -/
import Derived.Test.YtiabdeciadfiiaaManA
import Derived.Test.YtiabdeciadfiiaaGrB
import Derived.Deep.QuietTactic
import Derived.BigQuiet
namespace Go.Proofs.Ytiabdeciadfiiaa.mref
open Go.RowKit H O opk refr

set_option maxHeartbeats 4000000 in
theorem group_any (A : Option Addr) (n c : Nat) (xs : List Int) (w : World) (hn : xs.length = n) (h0 : Rd w A (iv .i64 xs)) (hb : n ≤ 9223372036854775807) :
    Calls Try.prog 55 #[.slice A n c] w fun e w' => e = .returned (.bool (grp xs)) ∧ ∃ q, w' = w.drewN q := by
  have H0 := As.mk h0
  have HN := As.mk hn
  clear h0 hn
  go_enter Try.func55, Try.ntmps55
  go_wp2
  go_loopw [3] (fun i wr => ∃ k : Nat, i = .int .i64 (k : Int) ∧ k ≤ n ∧ As (∀ j, j < k → grpAt xs j) ∧ ∃ q, wr = w.drewN q) (fun i _ => n - (intOf i).toNat)
  case atStart => exact ⟨0, rfl, by omega, ⟨fun j hj => by omega⟩, 0, rfl⟩
  case round =>
    obtain ⟨k, rfl, hk, HP, q, rfl⟩ := hrel
    by_cases hlt : k < n
    · have hlt' : k < xs.length := by rw [HN.out]; exact hlt
      obtain ⟨b0, o0, rfl, d0⟩ := man.int_at H0.out k hlt'
      have HD := As.mk (man.getD_get hlt')
      obtain ⟨y, hy⟩ : ∃ y, y = xs[k] := ⟨_, rfl⟩
      rw [← hy] at d0
      have HY : As (xs.getD k 0 = y) := ⟨by rw [HD.out, hy]⟩
      have HL := As.mk hlt'
      clear hy HD
      by_cases h1 : y < 0
      · have HF : As (grp xs = false) := ⟨man.grp_no hlt' (by unfold grpAt; rw [HY.out]; omega)⟩
        have hd : decide (y < 0) = true := by simpa using h1
        clear hlt'
        go_wp2
        go_quiet (fail)
        go_wp2
        go_ret
        exact ⟨man.ret_bool HF.out.symm, by first | exact ⟨_, rfl⟩ | exact ⟨_, World.drewN_drewN ..⟩⟩
      · have hd : decide (y < 0) = false := by simpa using h1
        by_cases h2 : 7 ≤ y
        · have HF : As (grp xs = false) := ⟨man.grp_no hlt' (by unfold grpAt; rw [HY.out]; omega)⟩
          have hd2 : decide (7 ≤ y) = true := by simpa using h2
          clear hlt'
          go_wp2
          go_quiet (fail)
          go_wp2
          go_ret
          exact ⟨man.ret_bool HF.out.symm, by first | exact ⟨_, rfl⟩ | exact ⟨_, World.drewN_drewN ..⟩⟩
        · have hd2 : decide (7 ≤ y) = false := by simpa using h2
          by_cases h3 : k = 0
          · have HPX : As (∀ j, j < k + 1 → grpAt xs j) := ⟨fun j hj => by
              obtain rfl : j = k := by omega
              unfold grpAt; rw [HY.out]; omega⟩
            have g9 : ¬ 0 < k := by omega
            have g8 : decide (0 < (k : Int)) = false := by simp; omega
            clear hlt' HP h3
            go_wp2
            go_quiet (fail)
            go_wp2
            go_roundw
            case rel => exact ⟨k + 1, by go_num, by omega, HPX, by first | exact ⟨_, rfl⟩ | exact ⟨_, World.drewN_drewN ..⟩⟩
            case measure => simp [intOf]; omega
          · obtain ⟨j, rfl⟩ : ∃ j, k = j + 1 := ⟨k - 1, by omega⟩
            obtain ⟨b1, o1, ha', d1⟩ := man.int_at H0.out j (by omega)
            cases ha'
            obtain ⟨z, hz⟩ : ∃ z, z = xs[j] := ⟨_, rfl⟩
            rw [← hz] at d1
            have HZ : As (xs.getD j 0 = z) := ⟨by rw [man.getD_get (by omega), hz]⟩
            clear hz h3 hlt'
            by_cases h4 : y ≤ z
            · have HF : As (grp xs = false) := ⟨man.grp_no HL.out (by unfold grpAt; rw [HY.out]; simp only [Nat.add_sub_cancel, HZ.out]; omega)⟩
              go_wp2
              go_quiet (fail)
              go_wp2
              go_ret
              exact ⟨man.ret_bool HF.out.symm, by first | exact ⟨_, rfl⟩ | exact ⟨_, World.drewN_drewN ..⟩⟩
            · have HPX : As (∀ i, i < j + 1 + 1 → grpAt xs i) := ⟨fun i hi => by
                by_cases e : i = j + 1
                · subst e
                  unfold grpAt; rw [HY.out]; simp only [Nat.add_sub_cancel, HZ.out]; omega
                · exact HP.out i (by omega)⟩
              clear HP
              go_wp2
              go_quiet (fail)
              go_wp2
              go_roundw
              case rel => exact ⟨j + 1 + 1, by go_num, by omega, HPX, by first | exact ⟨_, rfl⟩ | exact ⟨_, World.drewN_drewN ..⟩⟩
              case measure => simp [intOf]; omega
    · obtain rfl : k = n := by omega
      by_cases h1 : 1 ≤ k
      · by_cases h2 : k ≤ 7
        · have HF : As (grp xs = true) := ⟨grp_iff.2 ⟨fun i hi => HP.out i (by rw [HN.out] at hi; exact hi), by rw [HN.out]; exact h1, by rw [HN.out]; exact h2⟩⟩
          go_wp2
          go_ret
          exact ⟨man.ret_bool (by rw [HF.out]; simp; omega), _, rfl⟩
        · have HF : As (grp xs = false) := ⟨by rw [grp, decide_eq_false_iff_not, HN.out]; omega⟩
          go_wp2
          go_ret
          exact ⟨man.ret_bool (by rw [HF.out]; simp; omega), _, rfl⟩
      · have HF : As (grp xs = false) := ⟨by rw [grp, decide_eq_false_iff_not, HN.out]; omega⟩
        go_wp2
        go_ret
        exact ⟨man.ret_bool HF.out.symm, _, rfl⟩

set_option maxHeartbeats 2000000 in
theorem list_any (A : Option Addr) (n c : Nat) (xs : List Int) (w : World) (hn : xs.length = n) (h0 : Rd w A (iv .i64 xs)) (hnil : A = none → c = 0) (hb : n ≤ 10000) :
    Calls Try.prog 57 #[.slice A n c] w (RetOwn 5 .u8 w (nodesB xs)) := by
  have H0 := As.mk h0
  have HN := As.mk hn
  have HNL := As.mk hnil
  obtain ⟨T, hT⟩ : ∃ T, T = 1 + n := ⟨_, rfl⟩
  obtain ⟨us, hus⟩ : ∃ us, us = [(n : Int)] ++ xs := ⟨_, rfl⟩
  have hT9 : T ≤ 10001 := by omega
  have HUS := As.mk hus
  have HT := As.mk hT
  have HFIN : As (nums us = nodesB xs) := ⟨by rw [hus, nums_app, nums_one, nodesB, hn]⟩
  have HLU : As (us.length = T) := ⟨by rw [hus, hT, List.length_append, hn]; rfl⟩
  have HNU : As (∀ A3 c3 wX, Rd wX A3 (iv .i64 us) → Calls Try.prog 56 #[.slice A3 T c3] wX (RetOwn 5 .u8 wX (nums us))) := ⟨fun A3 c3 wX r3 => ref.nums_any A3 T c3 us wX HLU.out r3 (by omega)⟩
  clear h0 hn hnil hT hus
  go_enter Try.func57, Try.ntmps57
  go_wp2_with (first
    | (at_builtin; refine app64 rfl (.tmp 5) (.tmp 6) rfl (.slice (some ⟨w.heap.size, 0, none⟩) 1 1) 1 [.int .i64 (n : Int)] rfl (own_new w [.int .i64 (n : Int)] _ (show 1 ≤ maxLen by decide)) A n c (iv .i64 xs) rfl (by rw [iv_len, HN.out]) (((Kp.refl [] w).alloc _).rd_new H0.out (by simp)) HNL.out (iv_one _ _) (by omega) ?_; intro v2 w2 o2 k2 a2; have o2' : w2.ownsRow 0 3 1 v2 T (iv .i64 us) := (by rw [HUS.out, HT.out, iv_app]; exact o2); obtain ⟨A2, c2, rfl, _, _, r2, _⟩ := own_rd o2'; have HK2 : As (Kp [] w w2) := ⟨kp_lit k2⟩; have HN2 := As.mk (HNU.out A2 c2 w2 r2); clear o2 k2 a2 o2' r2)
    | (go_at_call 56; refine HN2.out.mono ?_; rintro e w3 ⟨v3, rfl, o3, k3⟩; have HO3 := As.mk (o3.lower HK2.out.size); have HK3 : As (Kp [] w w3) := ⟨HK2.out.trans k3 (by simp)⟩; clear o3 k3))
  go_ret
  rw [HFIN.out] at HO3
  exact ⟨v3, rfl, HO3.out, HK3.out⟩

set_option maxHeartbeats 4000000 in
theorem lists_any (A : Option Addr) (n c : Nat) (l : List (List Int)) (w : World) (hn : l.length = n) (hr : Ri [] w A l) (hm : gSize l ≤ 10000) :
    Calls Try.prog 54 #[.slice A n c] w (RetOwn 5 .u8 w (gridB l)) := by
  have HN := As.mk hn
  have HR := As.mk hr
  have HM := As.mk hm
  have hn9 : n ≤ 10000 := by have := gSize_len l; omega
  clear hr hn hm
  go_enter Try.func54, Try.ntmps54
  go_wp2_with (go_at_call 53; refine (ref.num_any _ _).mono ?_; rintro e w1 ⟨v1, rfl, o1, k1⟩; have HO1 := As.mk o1; have HK1 := As.mk k1; clear o1 k1)
  go_loopw [3, 4] (fun v i wr => ∃ k : Nat, i = .int .i64 (k : Int) ∧ k ≤ n ∧ As (Own 5 .u8 wr w.heap.size v (num (n : Int) ++ (l.take k).flatMap nodesB) ∧ Kp [] w wr)) (fun _ i _ => n - (intOf i).toNat)
  case atStart => exact ⟨0, rfl, by omega, ⟨by simpa using HO1.out, HK1.out⟩⟩
  case round =>
    obtain ⟨k, rfl, hk, HH⟩ := hrel
    have HO := As.mk HH.out.1
    have HK := As.mk HH.out.2
    clear HH
    by_cases hlt : k < n
    · have hlt' : k < l.length := by rw [HN.out]; exact hlt
      obtain ⟨a, Aj, cj, rfl, _, d0, hcj, hnj, hrj⟩ := HR.out k hlt'
      have d1 := HK.out.cell d0 (by simp)
      obtain ⟨xs, hxs⟩ : ∃ xs, xs = l[k] := ⟨_, rfl⟩
      rw [← hxs] at d1 hrj
      obtain ⟨m, hm⟩ : ∃ m, xs.length = m := ⟨_, rfl⟩
      rw [hm] at d1
      obtain ⟨T, hT⟩ : ∃ T, (num (n : Int) ++ (l.take k).flatMap nodesB).length = T := ⟨_, rfl⟩
      have hT9 : T ≤ 100000 := by
        have h1 := rowsB_len (l.take k)
        have h2 := gSize_take l k
        have h3 := num_len (n : Int)
        have h5 := HM.out
        rw [← hT, List.length_append]
        omega
      have hb2 : m ≤ 10000 := by
        have h1 := gSize_mem (List.getElem_mem hlt')
        have h5 := HM.out
        rw [← hxs] at h1
        omega
      have HLI := As.mk (list_any Aj m cj xs wr hm (HK.out.rd_new hrj.rd (by simp)) hnj hb2)
      have HST : As (num (n : Int) ++ (l.take k).flatMap nodesB ++ nodesB xs = num (n : Int) ++ (l.take (k + 1)).flatMap nodesB) := ⟨by rw [rowsB_step l k hlt', hxs]; simp⟩
      have HT := As.mk hT
      obtain ⟨q, hq⟩ : ∃ q, (nodesB xs).length = q := ⟨_, rfl⟩
      have hq9 : q ≤ 100000 := by have := nodesB_len xs; omega
      have HQ := As.mk hq
      have HOW : As (wr.ownsRow 0 5 1 u3 T (iv .u8 (num (n : Int) ++ (l.take k).flatMap nodesB))) := ⟨by rw [← hT]; exact HO.out.1⟩
      clear d0 hcj hnj hrj hm hT hxs hlt' hq
      go_wp2_with (first
        | (go_at_call 57; refine HLI.out.mono ?_; rintro e w2 ⟨v2, rfl, o2, k2⟩; obtain ⟨A2, c2, rfl, _, _, r2, n2⟩ := own_rd o2.1; rw [HQ.out]; have HR2 := As.mk r2; have HN2 := As.mk n2; have HK2 := As.mk k2; have HOW2 := As.mk (k2.own HOW.out (by simp)); have HO2 := As.mk (HO.out.kp k2 (by simp)); clear o2 k2 r2 n2 HLI)
        | (at_builtin; refine clone.app8 rfl (.tmp 14) (.tmp 19) rfl u3 T (iv .u8 (num (n : Int) ++ (l.take k).flatMap nodesB)) rfl HOW2.out A2 q c2 (iv .u8 (nodesB xs)) rfl (by rw [iv_len, HQ.out]) HR2.out HN2.out (iv_one _ _) (by omega) ?_; intro v3 w3 o3 k3 a3; have HO3 := As.mk (ref.own_apps HO2.out HT.out HQ.out (Nat.le_trans HK.out.size HK2.out.size) o3 a3); have HK3 := As.mk ((HK.out.trans HK2.out (by simp)).row k3 (fun y hy => .inr (HO.out.2 y hy))); clear o3 k3 a3))
      go_roundw
      case rel => exact ⟨k + 1, by go_num, by omega, ⟨by rw [← HST.out]; exact HO3.out, HK3.out⟩⟩
      case measure => simp [intOf]; omega
    · obtain rfl : k = n := by omega
      have e : l.take k = l := List.take_of_length_le (by rw [HN.out]; exact Nat.le_refl _)
      rw [e] at HO
      clear e
      go_wp2
      go_ret
      exact ⟨_, rfl, by rw [gridB, HN.out]; exact HO.out, HK.out⟩
end Go.Proofs.Ytiabdeciadfiiaa.mref
