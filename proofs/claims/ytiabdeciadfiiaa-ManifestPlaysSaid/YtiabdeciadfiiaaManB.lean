/- Package manifest: readNodes, readShards. -/
import Derived.Test.YtiabdeciadfiiaaManA
import Derived.Test.YtiabdeciadfiiaaGrA
namespace Go.Proofs.Ytiabdeciadfiiaa.man
open Go.RowKit H O opk reader

set_option maxHeartbeats 4000000 in
set_option maxRecDepth 100000 in
theorem readNodes_any (b : Nat) (g : Option Nat) (s : Option (List Int)) (w : World) (hR : Rdr w b g s) (hg : ∀ y, g = some y → y < w.heap.size) (hb : (left s).length ≤ 140737488351232) :
    Calls Try.prog 70 #[.pointer (some ⟨b, 0, none⟩)] w (NodesPost b g (rdN s).1 (rdN s).2 w) := by
  have hbl := hR.lt
  obtain ⟨n, s1, hn⟩ : ∃ n s1, stNum s = (n, s1) := ⟨_, _, rfl⟩
  have hl1 : (left s1).length ≤ 140737488351232 := by have := left_num hb; rwa [hn] at this
  have HNUM : As (Calls Try.prog 47 #[.pointer (some ⟨b, 0, none⟩)] w fun e w1 => e = .returned (.int .i64 (n : Int)) ∧ NR w b g (.slice none 0 0) 0 [] s1 w1) := ⟨by
    refine (num_any b g s w hR hb).mono ?_
    rw [hn]
    rintro e w1 ⟨rfl, g1, R1, G1, K1⟩
    exact ⟨rfl, NR.start hbl hg R1 G1 K1⟩⟩
  have HE : As ((rdN s) = if 7 < n then ([], none) else ((stNums n s1).1, if grp (stNums n s1).1 = true then (stNums n s1).2 else none)) := ⟨by rw [rdN, hn]⟩
  have HL := As.mk hl1
  have HBL := As.mk hbl
  clear hR hg hb hn hl1 hbl
  by_cases h7 : 7 < n
  · have HZ : As (rdN s = ([], none)) := ⟨by rw [HE.out, if_pos h7]⟩
    go_enter Try.func70, Try.ntmps70
    go_wp2_with (first
      | (go_at_call 47; refine HNUM.out.mono ?_; rintro e w1 ⟨rfl, h1⟩; have HB := As.mk h1.bad; clear h1 HNUM)
      | (go_at_call 73; refine HB.out.mono ?_; rintro e w2 ⟨rfl, h2⟩; have H2 := As.mk h2; clear h2 HB))
    go_ret
    rw [HZ.out]
    exact H2.out.post rfl
  · have HZ : As (rdN s = ((stNums n s1).1, if grp (stNums n s1).1 = true then (stNums n s1).2 else none)) := ⟨by rw [HE.out, if_neg h7]⟩
    go_enter Try.func70, Try.ntmps70
    go_wp2_with (first
      | (go_at_call 47; refine HNUM.out.mono ?_; rintro e w1 ⟨rfl, h1⟩; have H1 := As.mk h1; clear h1 HNUM))
    go_loopw [4, 12] (fun v i wr => ∃ (k : Nat) (A : Option Addr) (c : Nat), i = .int .i64 (k : Int) ∧ v = .slice A k c ∧ k ≤ n ∧ As (NR w b g v k (stNums k s1).1 (stNums k s1).2 wr)) (fun _ i _ => n - (intOf i).toNat)
    case atStart => exact ⟨0, none, 0, rfl, rfl, by omega, H1⟩
    case round =>
      obtain ⟨k, A, c, rfl, rfl, hk, HD⟩ := hrel
      by_cases hlt : k < n
      · have HN := As.mk (HD.out.num (reader.stNums_left HL.out))
        obtain ⟨x, hx⟩ : ∃ x, x = (stNum (stNums k s1).2).1 := ⟨_, rfl⟩
        rw [← hx] at HN
        have HST : As ((stNums k s1).1 ++ [(x : Int)] = (stNums (k + 1) s1).1 ∧ (stNum (stNums k s1).2).2 = (stNums (k + 1) s1).2) := ⟨by rw [reader.stNums_snoc, hx]; exact ⟨rfl, rfl⟩⟩
        clear hx
        go_wp2_with (first
          | (go_at_call 47; refine HN.out.mono ?_; rintro e w2 ⟨rfl, h2⟩; have H2 := As.mk h2; clear h2 HN)
          | (at_builtin; refine H.app64_one rfl (.tmp 14) (.tmp 17) rfl (.slice A k c) k (iv .i64 (stNums k s1).1) rfl H2.out.own (x : Int) rfl (by omega) ?_; intro v3 w3 o3 k3 a3; have h3 := H2.out.put o3 k3 a3; obtain ⟨A3, c3, rfl, _, _⟩ := h3.form; have H3 := As.mk h3; clear o3 k3 a3 h3))
        go_roundw
        case rel => exact ⟨k + 1, A3, c3, by go_num, rfl, by omega, ⟨by rw [← HST.out.1, ← HST.out.2]; exact H3.out⟩⟩
        case measure => simp [intOf]; omega
      · obtain rfl : k = n := by omega
        obtain ⟨_, _, hv, hnil, hr⟩ := HD.out.form
        cases hv
        have hlen := reader.stNums_len k s1
        have HI := As.mk (isNodes_any A k c (stNums k s1).1 wr hlen hr (by omega))
        have HLN := As.mk hlen
        cases hgr : grp (stNums k s1).1 with
        | true =>
          rw [hgr] at HI
          have HZ2 : As (rdN s = ((stNums k s1).1, (stNums k s1).2)) := ⟨by rw [HZ.out, if_pos hgr]⟩
          clear hnil hr hlen hgr
          go_wp2_with (go_at_call 38; refine HI.out.mono ?_; rintro e w2 ⟨rfl, rfl⟩; clear HI)
          go_ret
          rw [HZ2.out]
          exact HD.out.post HLN.out
        | false =>
          rw [hgr] at HI
          have HZ2 : As (rdN s = ((stNums k s1).1, none)) := ⟨by rw [HZ.out, if_neg (by rw [hgr]; simp)]⟩
          have HB := As.mk HD.out.bad
          clear hnil hr hlen hgr
          go_wp2_with (first
            | (go_at_call 38; refine HI.out.mono ?_; rintro e w2 ⟨rfl, rfl⟩; clear HI)
            | (go_at_call 73; refine HB.out.mono ?_; rintro e w3 ⟨rfl, h3⟩; have H3 := As.mk h3; clear h3 HB))
          go_ret
          rw [HZ2.out]
          exact H3.out.post HLN.out

set_option maxHeartbeats 4000000 in
set_option maxRecDepth 100000 in
theorem readShards_any (b : Nat) (g : Option Nat) (s : Option (List Int)) (w : World) (hR : Rdr w b g s) (hg : ∀ y, g = some y → y < w.heap.size) (hb : (left s).length ≤ 140737488351232) :
    Calls Try.prog 48 #[.pointer (some ⟨b, 0, none⟩)] w (ShardsPost b g (rdG s).1 (rdG s).2 w) := by
  have hbl := hR.lt
  obtain ⟨n, s1, hn⟩ : ∃ n s1, stNum s = (n, s1) := ⟨_, _, rfl⟩
  have hl1 : (left s1).length ≤ 140737488351232 := by have := left_num hb; rwa [hn] at this
  have HNUM : As (Calls Try.prog 47 #[.pointer (some ⟨b, 0, none⟩)] w fun e w1 => e = .returned (.int .i64 (n : Int)) ∧ SR w b g (.slice none 0 0) 0 [] s1 w1) := ⟨by
    refine (num_any b g s w hR hb).mono ?_
    rw [hn]
    rintro e w1 ⟨rfl, g1, R1, G1, K1⟩
    exact ⟨rfl, SR.start hbl hg R1 G1 K1⟩⟩
  have HE : As ((rdG s) = if 8 < n then ([], none) else rdIter n s1) := ⟨by rw [rdG, hn]⟩
  have HL := As.mk hl1
  have HBL := As.mk hbl
  have HG := As.mk hg
  clear hR hg hb hn hl1 hbl
  by_cases h8 : 8 < n
  · have HZ : As (rdG s = ([], none)) := ⟨by rw [HE.out, if_pos h8]⟩
    go_enter Try.func48, Try.ntmps48
    go_wp2_with (first
      | (go_at_call 47; refine HNUM.out.mono ?_; rintro e w1 ⟨rfl, h1⟩; have HB := As.mk h1.bad; clear h1 HNUM)
      | (go_at_call 73; refine HB.out.mono ?_; rintro e w2 ⟨rfl, h2, _⟩; have H2 := As.mk h2; clear h2 HB))
    go_ret
    rw [HZ.out]
    exact H2.out.post
  · have HZ : As (rdG s = rdIter n s1) := ⟨by rw [HE.out, if_neg h8]⟩
    go_enter Try.func48, Try.ntmps48
    go_wp2_with (first
      | (go_at_call 47; refine HNUM.out.mono ?_; rintro e w1 ⟨rfl, h1⟩; have H1 := As.mk h1; clear h1 HNUM))
    go_loopw [4, 12] (fun v i wr => ∃ (k : Nat) (A : Option Addr) (c : Nat), i = .int .i64 (k : Int) ∧ v = .slice A k c ∧ k ≤ n ∧ As (SR w b g v k (rdIter k s1).1 (rdIter k s1).2 wr)) (fun _ i _ => n - (intOf i).toNat)
    case atStart => exact ⟨0, none, 0, rfl, rfl, by omega, H1⟩
    case round =>
      obtain ⟨k, A, c, rfl, rfl, hk, HD⟩ := hrel
      by_cases hlt : k < n
      · obtain ⟨g1, R1, G1⟩ := HD.out.rdr
        have hg1 : ∀ y, g1 = some y → y < wr.heap.size := by
          intro y hy
          have := HD.out.kp.size
          rcases G1 with rfl | rfl
          · have := HG.out y hy; omega
          · cases hy
        have HN := As.mk (readNodes_any b g1 _ wr R1 hg1 (left_rdIter HL.out k))
        have HG1 := As.mk G1
        have HST : As ((rdIter k s1).1 ++ [(rdN (rdIter k s1).2).1] = (rdIter (k + 1) s1).1 ∧ (rdN (rdIter k s1).2).2 = (rdIter (k + 1) s1).2) := ⟨⟨rfl, rfl⟩⟩
        obtain ⟨m, hm⟩ : ∃ m, (rdN (rdIter k s1).2).1.length = m := ⟨_, rfl⟩
        have HM := As.mk hm
        clear R1 G1 hg1 hm
        go_wp2_with (first
          | (go_at_call 70; refine HN.out.mono ?_; rintro e w2 hp; obtain ⟨u, Au, cu, vs, rfl, rfl, o2, h2, ow2, lt2, le2⟩ := HD.out.one HG1.out hp; rw [HM.out] at o2; rw [HM.out]; have HO2 := As.mk o2; have H2 := As.mk h2; have HW2 := As.mk ow2; have HT2 := As.mk lt2; have HE2 := As.mk le2; clear hp o2 h2 ow2 lt2 le2 HN)
          | (at_builtin; refine appRow rfl (.tmp 14) (.tmp 17) rfl (.slice A k c) k vs rfl HW2.out (.slice Au m cu) rfl rfl (by omega) ?_; intro v3 w3 o3 k3 a3; have h3 := H2.out.put HT2.out HE2.out HO2.out HW2.out o3 k3 a3; obtain ⟨A3, c3, rfl⟩ := h3.form; have H3 := As.mk h3; clear o3 k3 a3 h3))
        go_roundw
        case rel => exact ⟨k + 1, A3, c3, by go_num, rfl, by omega, ⟨by rw [← HST.out.1, ← HST.out.2]; exact H3.out⟩⟩
        case measure => simp [intOf]; omega
      · obtain rfl : k = n := by omega
        go_wp2
        go_ret
        rw [HZ.out]
        exact HD.out.post
end Go.Proofs.Ytiabdeciadfiiaa.man
