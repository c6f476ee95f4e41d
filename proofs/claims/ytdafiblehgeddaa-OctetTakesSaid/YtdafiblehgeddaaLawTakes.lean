/- The walk of OctetTakes: any bytes, taken as somebody asks, beside the document's Reader. -/
import Derived.Test.YtdafiblehgeddaaKnown1
import Derived.Test.YtdafiblehgeddaaTwoR
import Derived.Test.YtdafiblehgeddaaOpen
import Derived.Deep.RegionHeld3
import Derived.Deep.CutRange
import Derived.Deep.Cut
import Derived.Deep.CutBlock
namespace Go.Proofs.Ytdafiblehgeddaa.haystacklaw1
open Go.RowKit H O

theorem stRaw_left {s : Option (List Int)} {n : Int} {m : Nat} (h : (left s).length ≤ m) : (left (stRaw n s).2).length ≤ m := by
  cases s with
  | none => simp [stRaw, left]
  | some l =>
    simp only [left, Option.getD_some] at h
    simp only [stRaw]
    split
    · simp [left]
    · simp only [left, Option.getD_some, List.length_drop]; omega
theorem stBytes_left {s : Option (List Int)} {m : Nat} (h : (left s).length ≤ m) : (left (stBytes s).2).length ≤ m := stRaw_left (reader.left_le h)
theorem stRaw_len {s : Option (List Int)} {n : Int} {m : Nat} (h : (left s).length ≤ m) : (stRaw n s).1.length ≤ m := by
  cases s with
  | none => simp [stRaw]
  | some l =>
    simp only [left, Option.getD_some] at h
    simp only [stRaw]
    split
    · simp
    · simp only [List.length_take]; omega
theorem stBytes_len {s : Option (List Int)} {m : Nat} (h : (left s).length ≤ m) : (stBytes s).1.length ≤ m := stRaw_len (reader.left_le h)

set_option maxHeartbeats 16000000 in
set_option maxRecDepth 100000 in
theorem takes_law (A : Option Addr) (n c : Nat) (xs : List Int) (hl : xs.length = n) (Ak : Option Addr) (nk ck : Nat) (ks : List Int) (hlk : ks.length = nk) (An : Option Addr) (nn cn : Nat) (ns : List Int) (hln : ns.length = nn)
    (w : World) (hr : Rd w A (iv .u8 xs)) (hnil : A = none → c = 0) (hwf : Wf xs) (hrk : Rd w Ak (iv .i64 ks)) (hrn : Rd w An (iv .i64 ns)) :
    Calls Try.prog 10 #[.slice A n c, .slice Ak nk ck, .slice An nn cn] w fun e w' => e = .returned (.bool true) ∧ Below w.heap.size w w' := by
  by_cases h4 : 4000 < n
  · have h4' : (4000 : Int) < (n : Int) := by omega
    clear hr hrk hrn hwf hnil hl hlk hln
    go_enter Try.func10, Try.ntmps10
    go_wp2
    go_ret
    exact ⟨rfl, Below.refl _ _⟩
  · have h4' : ¬ (4000 : Int) < (n : Int) := by omega
    by_cases h2 : 200 < nk
    · have h2' : (200 : Int) < (nk : Int) := by omega
      clear hr hrk hrn hwf hnil hl hlk hln
      go_enter Try.func10, Try.ntmps10
      go_wp2
      go_ret
      exact ⟨rfl, Below.refl _ _⟩
    · have h2' : ¬ (200 : Int) < (nk : Int) := by omega
      by_cases h3 : nn < nk
      · have h3' : (nn : Int) < (nk : Int) := by omega
        clear hr hrk hrn hwf hnil hl hlk hln
        go_enter Try.func10, Try.ntmps10
        go_wp2
        go_ret
        exact ⟨rfl, Below.refl _ _⟩
      · have h3' : ¬ (nn : Int) < (nk : Int) := by omega
        have HR := As.mk hr
        have HL := As.mk hl
        have HN := As.mk hnil
        have HWF := As.mk hwf
        have HRK := As.mk hrk
        have HLK := As.mk hlk
        have HRN := As.mk hrn
        have HLN := As.mk hln
        have HRM := As.mk (roomy_any A n c xs w hl hr hnil (by omega))
        clear hr hrk hrn hwf hnil hl hlk hln
        go_enter Try.func10, Try.ntmps10
        go_wp2_with (go_at_call 25; refine HRM.out.mono ?_; rintro e w1 ⟨v9, rfl, O9, K9⟩; have O9' := O9.1; rw [List.length_append, HL.out, List.length_singleton] at O9'; obtain ⟨g9, cap9, rfl, hcap9, hcap9'⟩ := own_form O9' (by omega); have HO9 := As.mk O9; have HK9 := As.mk K9; have HNR := As.mk (reader.new_any (some ⟨g9, 0, none⟩) n cap9 xs w1 HL.out (by have h9 := (O9.rds (S := []) (by simp)).rd; rw [iv_app] at h9; exact h9.app) (by simp) (by omega) HWF.out); clear O9 O9' K9)
        go_wp2_with (first
          | (go_at_call 16; refine HNR.out.mono ?_; rintro e w2 ⟨b1, g1, rfl, R1, hb1, hg1, K2⟩; have HK2 := As.mk K2; have HR1 := As.mk R1; have HB1 := As.mk hb1; have HG1 := As.mk hg1; clear R1 hb1 hg1 K2)
          | (at_builtin; refine clone.app8 rfl (.tmp 40) (.tmp 41) rfl (.slice (some ⟨w2.heap.size, 0, none⟩) 0 0) 0 [] rfl (own_new w2 [] _ (Nat.zero_le _)) A n c (iv .u8 xs) rfl (by rw [iv_len, HL.out]) ((((HK9.out.trans HK2.out (by simp)).alloc _).rd_new HR.out (by simp))) HN.out (iv_one _ _) (by omega) ?_; intro v3 w3 o3 k3 a3; have O3 : Own 5 .u8 w3 w2.heap.size v3 xs := own_of_app HL.out o3 a3 (by simp) (by simp [Value.ownBlock]); have O3' := O3.1; rw [HL.out] at O3'; obtain ⟨A3, c3, rfl, _, _, _, _⟩ := own_rd O3'; have K3 := kp_of_new k3; have HT := As.mk (TwoR.start HR1.out (fun x hx => (HG1.out x hx).2) K3 O3 HWF.out); have HK3 := As.mk K3; clear o3 k3 a3 O3 O3' K3))
        have HK4 : As (Kp [] w (w3.alloc (.cells #[.slice A3 n c3, .bool false] 57))) := ⟨((HK9.out.trans HK2.out (by simp)).trans HK3.out (by simp)).alloc _⟩
        have HX4 : As (Own 5 .u8 (w3.alloc (.cells #[.slice A3 n c3, .bool false] 57)) w.heap.size (.slice (some ⟨g9, 0, none⟩) (n + 1) cap9) (xs ++ [171])) := ⟨HO9.out.kp ((HK2.out.trans HK3.out (by simp)).alloc _) (by simp)⟩
        have HG9 : As (g9 ≠ b1 ∧ g9 ≠ w3.heap.size ∧ w.heap.size ≤ b1 ∧ w.heap.size ≤ w3.heap.size) := ⟨by
          have e1 := own_lt HO9.out.1 g9 rfl
          have e2 := HB1.out
          have e3 := HK2.out.size
          have e4 := HK3.out.size
          have e5 := HK9.out.size
          omega⟩
        clear HRM HNR HO9 HK9 HK2 HR1 HB1 HG1 HK3
        revert HT HK4 HX4 HG9
        generalize w3.alloc (.cells #[.slice A3 n c3, .bool false] 57) = w4
        generalize w3.heap.size = b2
        intro HT HK4 HX4 HG9
        go_loopw [10] (fun i wr => ∃ j : Nat, i = .int .i64 (j : Int) ∧ j ≤ nk ∧ ∃ s, As (TwoR w4 wr b1 b2 s s ∧ (left s).length ≤ 4000)) (fun i _ => nk - (intOf i).toNat)
        case atStart => exact ⟨0, rfl, by omega, some xs, HT.out, by simp only [left, Option.getD_some]; rw [HL.out]; omega⟩
        case round =>
          obtain ⟨j, rfl, hj, s, hT⟩ := hrel
          by_cases hlt : j < nk
          · obtain ⟨a, rfl, d0⟩ := HRK.out.int j (by rw [HLK.out]; exact hlt)
            obtain ⟨K, hK⟩ : ∃ K, K = ks[j]'(by rw [HLK.out]; exact hlt) := ⟨_, rfl⟩
            rw [← hK] at d0
            have hab : a.block < w.heap.size := by have := World.block_lt_of_cell? w _ d0; rwa [add_block] at this
            obtain ⟨a2, rfl, e0⟩ := HRN.out.int j (by rw [HLN.out]; omega)
            obtain ⟨M, hM⟩ : ∃ M, M = ns[j]'(by rw [HLN.out]; omega) := ⟨_, rfl⟩
            rw [← hM] at e0
            have hab2 : a2.block < w.heap.size := by have := World.block_lt_of_cell? w _ e0; rwa [add_block] at this
            have HD : As (∀ wX s t, TwoR w4 wX b1 b2 s t → wX.cell? (a.add j) = some (.int .i64 K)) := ⟨fun wX s t h => (HK4.out.trans h.kp (by have := HG9.out; simp; omega)).cell d0 (by simp)⟩
            have HE : As (∀ wX s t, TwoR w4 wX b1 b2 s t → wX.cell? (a2.add j) = some (.int .i64 M)) := ⟨fun wX s t h => (HK4.out.trans h.kp (by have := HG9.out; simp; omega)).cell e0 (by simp)⟩
            have d1 := HD.out _ _ _ hT.out.1
            clear d0 e0 hK hM
            go_upto_block 2 with fail
            go_cut [11, 12, 13, 14, 15] from 45 to 136 (fun ok _ _ _ _ wx => ok = .bool true ∧ ∃ s', As (TwoR w4 wx b1 b2 s' s' ∧ (left s').length ≤ 4000))
            case first =>
              obtain ⟨hT1, hl4⟩ := hT.out
              by_cases k1 : K = 1
              · subst k1
                have HC1 := As.mk (hT1.call1 (f := 18) (fun g R => reader.num_any b1 g s wr R (by omega)))
                have HT1 := As.mk hT1
                clear hT1
                go_wp2_with (first
                  | (go_at_call 18; refine HC1.out.mono ?_; rintro e w1 ⟨rfl, T1, _⟩; have HC2 := As.mk (T1.call2 (f := 35) (fun g R => refr.num_any b2 g s w1 R (by omega))); clear T1)
                  | (go_at_call 35; refine HC2.out.mono ?_; rintro e w2 ⟨rfl, T2, _⟩; have HT2 := As.mk T2; clear T2))
                go_meet
                case rel => exact ⟨rfl, (stNum s).2, ⟨HT2.out, reader.left_le hl4⟩⟩
              · have k1b : (K == 1) = false := by simpa using k1
                by_cases k2 : K = 2
                · subst k2
                  obtain ⟨len, hlen⟩ : ∃ len, (stBytes s).1.length = len := ⟨_, rfl⟩
                  have hlen4 : len ≤ 4000 := by rw [← hlen]; exact stBytes_len hl4
                  have HLEN := As.mk hlen
                  have HC1 := As.mk (hT1.raw1 (f := 30) (fun g R => reader.bytes_any b1 g s wr R (by omega)))
                  have HT1 := As.mk hT1
                  clear hT1 hlen
                  go_wp2_with (go_at_call 30; refine HC1.out.mono ?_; rintro e w1 ⟨v1, rfl, O1, T1, K1⟩; have O1' := O1.1; rw [HLEN.out] at O1'; obtain ⟨A1, c1, rfl, _, _, D1, _⟩ := own_rd O1'; have HO1 := As.mk O1; have HD1 := As.mk D1; have HC2 := As.mk (T1.raw2 (f := 36) (fun g R => refr.bytes_any b2 g s w1 R (by omega))); clear T1 O1 O1' D1 K1)
                  go_wp2_with (go_at_call 36; refine HC2.out.mono ?_; rintro e w2 ⟨v2, rfl, O2, T2, K2⟩; have O2' := O2.1; rw [HLEN.out] at O2'; obtain ⟨A2, c2, rfl, _, _, D2, _⟩ := own_rd O2'; have HO12 := As.mk (HO1.out.kp K2 (fun x hx hm => by have h1 := HO1.out.2 x hx; have h2 := HT1.out.lt2; have h3 := HT1.out.kp.size; simp at hm; omega)); have HT2 := As.mk T2; have HSM := As.mk (same_any A1 A2 len c1 len c2 (stBytes s).1 (stBytes s).1 w2 HLEN.out HLEN.out (HO12.out.rds (S := []) (by simp)).rd D2 (by rw [HLEN.out]; omega)); clear T2 O2 O2' D2 K2)
                  go_wp2_with (go_at_call 14; refine HSM.out.mono ?_; rintro e w3 ⟨rfl, n3, hw3⟩; have HK3 : As (Kp [] w2 w3) := ⟨by rw [hw3]; exact (Kp.refl [] _).drewN _⟩; have HSP := As.mk (spoil_any (.slice A1 len c1) len (iv .u8 (stBytes s).1) w3 (by have h9 := (HO12.out.kp HK3.out (by simp)).1; rw [HLEN.out] at h9; exact h9) (by omega)); clear hw3)
                  go_wp2_with (go_at_call 17; refine HSP.out.mono ?_; rintro e w5 ⟨rfl, K5⟩; have HT5 := As.mk ((HT2.out.skip HK3.out).far K5 (fun x hx => by have h1 := HO1.out.2 x (by simpa using hx); have h3 := HT1.out.kp.size; omega)); clear K5)
                  go_meet
                  case rel => exact ⟨rfl, (stBytes s).2, ⟨HT5.out, stBytes_left hl4⟩⟩
                · have k2b : (K == 2) = false := by simpa using k2
                  by_cases k3 : K = 3
                  · subst k3
                    obtain ⟨len, hlen⟩ : ∃ len, (stRaw M s).1.length = len := ⟨_, rfl⟩
                    have hlen4 : len ≤ 4000 := by rw [← hlen]; exact stRaw_len hl4
                    have HLEN := As.mk hlen
                    have HTd := As.mk (hT1.skip (Kp.refl [] wr).drew)
                    have HR0 := As.mk (HTd.out.raw1 (f := 32) (fun g R => reader.raw_any b1 g s M wr.drew R (by omega)))
                    have HS0 := As.mk (HTd.out.raw2 (f := 37) (fun g R => refr.raw_any b2 g s M wr.drew R (by omega)))
                    have e0 := HE.out _ _ _ HTd.out
                    have jn0 : (0 : Int) ≤ (j : Int) := by omega
                    have jn1 : (j : Int) < (nn : Int) := by omega
                    clear hT1 hlen
                    go_wp2
                    go_region_held3 (fun w' => w'.cell? (a2.add j) = some (.int .i64 M)) (first | exact e3 | exact e2 | exact e1 | exact e0) (first
                      | (go_at_call 32; refine HR1.out.mono ?_; rintro e w2 ⟨v1, rfl, O1, T2, K2⟩; have O1' := O1.1; rw [HLEN.out] at O1'; obtain ⟨A1, c1, rfl, _, _, D1, _⟩ := own_rd O1'; have e2 := HE.out _ _ _ T2; have HT2 := As.mk T2; have HSM := As.mk (same_any A1 A2 len c1 len c2 (stRaw M s).1 (stRaw M s).1 w2 HLEN.out HLEN.out D1 ((HO2.out.kp K2 (fun x hx hm => by have h1 := HO2.out.2 x hx; have h2 := HTd.out.lt1; have h3 := HTd.out.kp.size; simp only [List.mem_singleton] at hm; omega)).rds (S := []) (by simp)).rd (by rw [HLEN.out]; omega)); clear O1 O1' D1 T2 K2)
                      | (go_at_call 32; refine HR0.out.mono ?_; rintro e w1 ⟨v1, rfl, O1, T1, K1⟩; have O1' := O1.1; rw [HLEN.out] at O1'; obtain ⟨A1, c1, rfl, _, _, _, _⟩ := own_rd O1'; have e1 := HE.out _ _ _ T1; have HO1 := As.mk O1; have HS1 := As.mk (T1.raw2 (f := 37) (fun g R => refr.raw_any b2 g s M w1 R (by omega))); clear O1 O1' T1 K1)
                      | (go_at_call 37; refine HS1.out.mono ?_; rintro e w2 ⟨v2, rfl, O2, T2, K2⟩; have O2' := O2.1; rw [HLEN.out] at O2'; obtain ⟨A2, c2, rfl, _, _, D2, _⟩ := own_rd O2'; have e2 := HE.out _ _ _ T2; have HT2 := As.mk T2; have HSM := As.mk (same_any A1 A2 len c1 len c2 (stRaw M s).1 (stRaw M s).1 w2 HLEN.out HLEN.out ((HO1.out.kp K2 (fun x hx hm => by have h1 := HO1.out.2 x hx; have h2 := HTd.out.lt2; have h3 := HTd.out.kp.size; simp only [List.mem_singleton] at hm; omega)).rds (S := []) (by simp)).rd D2 (by rw [HLEN.out]; omega)); clear O2 O2' D2 T2 K2)
                      | (go_at_call 37; refine HS0.out.mono ?_; rintro e w1 ⟨v2, rfl, O2, T1, K1⟩; have O2' := O2.1; rw [HLEN.out] at O2'; obtain ⟨A2, c2, rfl, _, _, _, _⟩ := own_rd O2'; have e1 := HE.out _ _ _ T1; have HO2 := As.mk O2; have HR1 := As.mk (T1.raw1 (f := 32) (fun g R => reader.raw_any b1 g s M w1 R (by omega))); clear O2 O2' T1 K1)
                      | (go_at_call 14; refine HSM.out.mono ?_; rintro e w3 ⟨rfl, n3, hw3⟩; have HT3 : As (TwoR w4 w3 b1 b2 (stRaw M s).2 (stRaw M s).2) := ⟨HT2.out.skip (by rw [hw3]; exact (Kp.refl [] _).drewN _)⟩; have e3 := HE.out _ _ _ HT3.out; clear hw3))
                    all_goals
                      go_wp2
                      go_meet
                      case rel => exact ⟨rfl, (stRaw M s).2, ⟨HT3.out, stRaw_left hl4⟩⟩
                  · have k3b : (K == 3) = false := by simpa using k3
                    by_cases k4 : K = 4
                    · subst k4
                      have HC1 := As.mk (hT1.call1 (f := 33) (fun g R => reader.bad_any b1 g s wr R))
                      have HT1 := As.mk hT1
                      clear hT1
                      go_wp2_with (first
                        | (go_at_call 33; refine HC1.out.mono ?_; rintro e w1 ⟨rfl, T1, _⟩; have HC2 := As.mk (T1.call2 (f := 38) (fun g R => refr.bad_any b2 g s w1 R)); clear T1)
                        | (go_at_call 38; refine HC2.out.mono ?_; rintro e w2 ⟨rfl, T2, _⟩; have HT2 := As.mk T2; clear T2))
                      go_meet
                      case rel => exact ⟨rfl, none, ⟨HT2.out, by simp [left]⟩⟩
                    · have k4b : (K == 4) = false := by simpa using k4
                      have HC1 := As.mk (hT1.nums3 (by omega))
                      have hl41 := As.mk (reader.left_le hl4)
                      have hl42 := As.mk (reader.left_le hl41.out)
                      have hl43 := As.mk (reader.left_le hl42.out)
                      have HW := As.mk (And.intro hT1.kp.size hT1.lt2)
                      clear hT1
                      go_wp2_with (go_at_call 34; refine HC1.out.mono ?_; rintro e w1 ⟨rfl, T1, cp, cq⟩; have HT1 := As.mk T1; have HCP := As.mk cp; have HCQ := As.mk cq; have HC2 := As.mk (T1.call2 (f := 35) (fun g R => refr.num_any b2 g s w1 R (by omega))); clear T1 cp cq)
                      go_wp2_with (go_at_call 35; refine HC2.out.mono ?_; rintro e w2 ⟨rfl, T2, K2⟩; have HT2 := As.mk T2; have HK2 := As.mk K2; have HC3 := As.mk (T2.call2 (f := 35) (fun g R => refr.num_any b2 g _ w2 R (by have := hl41.out; omega))); clear T2 K2 HC2)
                      go_wp2_with (go_at_call 35; refine HC3.out.mono ?_; rintro e w3 ⟨rfl, T3, K3⟩; have HT3 := As.mk T3; have HK3 := As.mk (HK2.out.trans K3 (fun x hx => .inl hx)); have HC4 := As.mk ((T3.skip (Kp.refl [] w3).drew).call2 (f := 35) (fun g R => refr.num_any b2 g _ w3.drew R (by have := hl42.out; omega))); clear T3 K3 HC3)
                      have p3 := HK3.out.drew.cell HCP.out (by have := HW.out; simp; omega)
                      have q3 := HK3.out.drew.cell HCQ.out (by have := HW.out; simp; omega)
                      go_region_held3 (fun w' => w'.cell? ⟨wr.heap.size, 0, none⟩ = some (.int .i64 ((stNum s).1 : Int)) ∧ w'.cell? ⟨wr.heap.size + 1, 0, none⟩ = some (.int .i64 ((stNum (stNum (stNum s).2).2).1 : Int))) (first | exact ⟨p3, q3⟩ | exact ⟨p4, q4⟩)
                        (first | (go_at_call 35; refine HC4.out.mono ?_; rintro e w5 ⟨rfl, T5, K5⟩; have HT5 := As.mk T5; have p4 := K5.cell p3 (by have := HW.out; simp; omega); have q4 := K5.cell q3 (by have := HW.out; simp; omega); clear T5 K5))
                      all_goals
                        go_wp2
                        go_meet
                        case rel => exact ⟨rfl, (stNum (stNum (stNum s).2).2).2, ⟨HT5.out, hl43.out⟩⟩
            case rest =>
              obtain ⟨rfl, s', hT'⟩ := hcut
              obtain ⟨m, hm⟩ : ∃ m, (left s').length = m := ⟨_, rfl⟩
              have hm4 := hT'.out.2
              rw [hm] at hm4
              have HT' := As.mk hT'.out.1
              obtain ⟨e, he⟩ : ∃ e, s'.isNone = e := ⟨_, rfl⟩
              have hes : s'.isSome = !e := by rw [← he]; cases s' <;> rfl
              obtain ⟨wh, hwh⟩ : ∃ wh, reader.whole s' = wh := ⟨_, rfl⟩
              have hwh2 : refr.whole s' = wh := hwh
              obtain ⟨g1', g2', R1, R2, _, _⟩ := hT'.out.1.ex
              have R1d := R1.kp (Kp.refl [] wc).drew (by simp) (by simp)
              have R2d := R2.kp (Kp.refl [] wc).drew (by simp) (by simp)
              have HLF := As.mk (reader.left_any b1 g1' s' wc.drew R1d)
              have HGD := As.mk (reader.good_any b1 g1' s' wc.drew R1d)
              have HWH := As.mk (reader.whole_any b1 g1' s' wc.drew R1d)
              have HW2 := As.mk (refr.whole_any b2 g2' s' wc.drew R2d)
              rw [hm] at HLF
              rw [hes] at HGD
              rw [hwh] at HWH
              rw [hwh2] at HW2
              obtain ⟨A', c', hb2, _⟩ := R2d
              rw [hm, he] at hb2
              have c20 := blk_cell hb2 0 rfl
              have c21 := blk_cell hb2 1 rfl
              have HM := As.mk hm
              have HEW : As (e = true → wh = false) := ⟨fun h1 => by rw [← hwh]; cases s' with | none => rfl | some z => rw [← he] at h1; cases h1⟩
              clear R1 R1d R2 hb2 hm hT' he hes hwh hwh2
              cases e with
              | false =>
                cases wh
                all_goals
                  go_wp2
                  go_region_held3 (fun w' => w'.cell? ⟨b2, 0, none⟩ = some (.slice A' m c') ∧ w'.cell? ⟨b2, 1, none⟩ = some (.bool false)) (exact ⟨c20, c21⟩) (first
                    | (go_at_call 31; refine HLF.out.mono ?_; rintro e w' ⟨rfl, rfl⟩)
                    | (go_at_call 19; refine HGD.out.mono ?_; rintro e w' ⟨rfl, rfl⟩)
                    | (go_at_call 20; refine HWH.out.mono ?_; rintro e w' ⟨rfl, rfl⟩)
                    | (go_at_call 39; refine HW2.out.mono ?_; rintro e w' ⟨rfl, rfl⟩))
                  all_goals
                    go_wp2
                    go_roundw
                    case rel => exact ⟨j + 1, by go_num, by omega, s', ⟨HT'.out.skip (Kp.refl [] wc).drew, by rw [HM.out]; exact hm4⟩⟩
                    case measure => simp [intOf]; omega
              | true =>
                obtain rfl : wh = false := HEW.out rfl
                all_goals
                  go_wp2
                  go_region_held3 (fun w' => w'.cell? ⟨b2, 0, none⟩ = some (.slice A' m c') ∧ w'.cell? ⟨b2, 1, none⟩ = some (.bool true)) (exact ⟨c20, c21⟩) (first
                    | (go_at_call 31; refine HLF.out.mono ?_; rintro e w' ⟨rfl, rfl⟩)
                    | (go_at_call 19; refine HGD.out.mono ?_; rintro e w' ⟨rfl, rfl⟩)
                    | (go_at_call 20; refine HWH.out.mono ?_; rintro e w' ⟨rfl, rfl⟩)
                    | (go_at_call 39; refine HW2.out.mono ?_; rintro e w' ⟨rfl, rfl⟩))
                  all_goals
                    go_wp2
                    go_roundw
                    case rel => exact ⟨j + 1, by go_num, by omega, s', ⟨HT'.out.skip (Kp.refl [] wc).drew, by rw [HM.out]; exact hm4⟩⟩
                    case measure => simp [intOf]; omega
          · obtain ⟨hT1, _⟩ := hT.out
            have HT := As.mk hT1
            have HK := As.mk (HK4.out.trans hT1.kp (by have := HG9.out; simp; omega))
            obtain ⟨wh, hwh⟩ : ∃ wh, reader.whole s = wh := ⟨_, rfl⟩
            have hwh2 : refr.whole s = wh := hwh
            have HST := As.mk (stands_any (some ⟨g9, 0, none⟩) A (n + 1) cap9 n c (xs ++ [171]) xs wr (by rw [List.length_append, HL.out]; rfl) HL.out ((HX4.out.kp hT1.kp (by have := HG9.out; intro x hx; cases hx; simp; omega)).rds (S := []) (by simp)).rd (HK.out.rd_new HR.out (by simp)) (by omega) (by rw [List.length_append, HL.out]; simp; omega) (by rw [HL.out]; omega))
            have HWD := As.mk hwh
            have HWD2 := As.mk hwh2
            clear hT1 hwh hwh2
            go_wp2_with (go_at_call 27; refine HST.out.mono ?_; rintro e w5 ⟨rfl, n5, hw5⟩; have HK5 : As (Kp [] wr w5) := ⟨by rw [hw5]; exact (Kp.refl [] _).drewN _⟩; have HW1 : As (Calls Try.prog 20 #[.pointer (some ⟨b1, 0, none⟩)] w5 fun e w' => e = .returned (.bool wh) ∧ w' = w5) := ⟨by obtain ⟨g1', g2', R1, R2, _⟩ := (HT.out.skip HK5.out).ex; rw [← HWD.out]; exact reader.whole_any b1 _ s w5 R1⟩; have HW2 : As (Calls Try.prog 39 #[.pointer (some ⟨b2, 0, none⟩)] w5 fun e w' => e = .returned (.bool wh) ∧ w' = w5) := ⟨by obtain ⟨g1', g2', R1, R2, _⟩ := (HT.out.skip HK5.out).ex; rw [← HWD2.out]; exact refr.whole_any b2 _ s w5 R2⟩; clear hw5)
            go_wp2_with (first
              | (go_at_call 20; refine HW1.out.mono ?_; rintro e w6 ⟨rfl, rfl⟩)
              | (go_at_call 39; refine HW2.out.mono ?_; rintro e w7 ⟨rfl, rfl⟩)
              | (go_at_call 11; refine (known_any _).mono ?_; rintro e w8 ⟨rfl, hk8⟩; have HK8 : As (Kp [] w w8) := ⟨(HK.out.trans HK5.out (by simp)).trans hk8 (by simp)⟩; clear hk8))
            go_ret
            exact ⟨rfl, HK8.out.below⟩

theorem takes_row (w : World) (A : Option Addr) (n c : Nat) (xs : List Int) (hl : xs.length = n) (hr : Rd w A (iv .u8 xs)) (_hc : n ≤ c) (_hm : c ≤ 9223372036854775807) (hn : A = none → c = 0)
    (hw : ∀ x ∈ xs, (Lit.int .u8 x).wf = true) (_hz : n * 1 ≤ 140737488351232)
    (Ak : Option Addr) (nk ck : Nat) (ks : List Int) (hlk : ks.length = nk) (hrk : Rd w Ak (iv .i64 ks)) (_hck : nk ≤ ck) (_hmk : ck ≤ 9223372036854775807) (_hnk : Ak = none → ck = 0)
    (_hwk : ∀ x ∈ ks, (Lit.int .i64 x).wf = true) (_hzk : nk * 8 ≤ 140737488351232)
    (An : Option Addr) (nn cn : Nat) (ns : List Int) (hln : ns.length = nn) (hrn : Rd w An (iv .i64 ns)) (_hcn : nn ≤ cn) (_hmn : cn ≤ 9223372036854775807) (_hnn : An = none → cn = 0)
    (_hwn : ∀ x ∈ ns, (Lit.int .i64 x).wf = true) (_hzn : nn * 8 ≤ 140737488351232) :
    Calls Try.prog 10 #[.slice A n c, .slice Ak nk ck, .slice An nn cn] w fun e w' => e = .returned (.bool true) ∧ Below w.heap.size w w' :=
  takes_law A n c xs hl Ak nk ck ks hlk An nn cn ns hln w hr hn (fun y hy => wf_u8 (hw y hy)) hrk hrn

end Go.Proofs.Ytdafiblehgeddaa.haystacklaw1
