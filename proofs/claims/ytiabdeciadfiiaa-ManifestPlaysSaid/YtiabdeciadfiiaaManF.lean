/- Package manifest: Encode, Decode, own, Map. -/
import Derived.Test.YtiabdeciadfiiaaManD
import Derived.Test.YtiabdeciadfiiaaMapA
namespace Go.Proofs.Ytiabdeciadfiiaa.man
open Go.RowKit H O opk

set_option maxHeartbeats 4000000 in
theorem encode_any (v : Int) (A : Option Addr) (n c : Nat) (l : List (List Int)) (w : World) (hn : l.length = n) (hr : Ri [] w A l) (hm : gSize l ≤ 10000) :
    Calls Try.prog 22 #[.agg #[.int .i64 v, .slice A n c]] w (RetOwn 5 .u8 w (mapB v l)) := by
  obtain ⟨w1, hw1⟩ : ∃ w1, w1 = w.alloc (.cells #[.int .i64 v, .slice A n c] 36) := ⟨_, rfl⟩
  have k1 : Kp [] w w1 := by rw [hw1]; exact (Kp.refl [] w).alloc _
  have hs1 : w1.heap.size = w.heap.size + 1 := by rw [hw1, World.size_alloc]
  have hb1 : w1.heap[w.heap.size]? = some (.cells #[.int .i64 v, .slice A n c] 36) := by rw [hw1]; exact heap_alloc_new w _
  have HNU := As.mk (mat_num (MW.new w1) v (by simp))
  rw [World.size_alloc, hs1, hw1] at HNU
  have HSH : As (∀ wX, MW w1 w1.heap.size ([] ++ num v) wX → Calls Try.prog 40 #[.pointer (some ⟨w.heap.size + 1, 0, none⟩), .slice A n c] wX fun e w' => e = .returned (.tuple #[]) ∧ MW w1 w1.heap.size (mapB v l) w') := ⟨fun wX h => by
    have := shards_any h A n c l hn (hr.kp k1 (by simp) (by simp)) (by have := num_len v; rw [List.nil_append]; omega) hm
    rw [List.nil_append, hs1] at this
    rw [hs1]
    exact this⟩
  have HOUT : As (∀ wX, MW w1 w1.heap.size (mapB v l) wX → Calls Try.prog 41 #[.pointer (some ⟨w.heap.size + 1, 0, none⟩)] wX (fun e w' => ∃ v1, e = .returned v1 ∧ Own 5 .u8 w' w.heap.size v1 (mapB v l) ∧ Kp [] w w')) := ⟨fun wX h => by
    have h9 := mat_out h (by
      have h1 := gridB_len l
      have h3 := num_len v
      rw [mapB, List.length_append]; omega)
    rw [hs1] at h9
    refine h9.mono ?_
    rintro e w' ⟨v1, rfl, o, k⟩
    exact ⟨v1, rfl, o.lower (by omega), k1.trans k (by simp)⟩⟩
  have HK : As (∀ wX ys, MW w1 w1.heap.size ys wX → wX.heap[w.heap.size]? = some (.cells #[.int .i64 v, .slice A n c] 36)) := ⟨fun wX ys h => h.kp.blk hb1 (by simp)⟩
  rw [hs1, hw1] at HSH HOUT HK
  clear hn hr hm hs1 hb1 k1 hw1
  go_enter Try.func22, Try.ntmps22
  go_wp2_with (first
    | (go_at_call 39; refine HNU.out.mono ?_; rintro e w2 ⟨rfl, h2⟩; have H2 := As.mk (HSH.out w2 h2); have hb2 := HK.out w2 _ h2; have q1 := blk_cell hb2 1 rfl; clear h2 hb2 HNU)
    | (go_at_call 40; refine H2.out.mono ?_; rintro e w3 ⟨rfl, h3⟩; have H3 := As.mk (HOUT.out w3 h3); clear h3 H2)
    | (go_at_call 41; refine H3.out.mono ?_; rintro e w4 ⟨v4, rfl, o4, k4⟩; have HO4 := As.mk o4; have HK4 := As.mk k4; clear o4 k4 H3))
  go_ret
  exact ⟨v4, rfl, HO4.out, HK4.out⟩

/-- bytes as a map: what comes back -/
def DecPost (xs : List Int) (w : World) (e : Ending) (w' : World) : Prop :=
  ∃ A c, e = .returned (.tuple #[.agg #[.int .i64 ((mDec xs).1 : Int), .slice A (mDec xs).2.1.length c], .int .i64 (mDec xs).2.2]) ∧ OwnL [] w' w.heap.size (.slice A (mDec xs).2.1.length c) (mDec xs).2.1 ∧ Kp [] w w'
theorem DecPost.no {xs : List Int} {w w' : World} (h : mDec xs = (0, [], 3)) (k : Kp [] w w') : DecPost xs w (.returned (.tuple #[.agg #[.int .i64 0, .slice none 0 0], .int .i64 3])) w' := by
  refine ⟨none, 0, by rw [h]; rfl, ?_, k⟩
  rw [h]
  exact OwnL.nil _ _ _
theorem DecPost.yes {xs : List Int} {w w' : World} {v n c : Nat} {l : List (List Int)} {A : Option Addr} (h : mDec xs = (v, l, 0)) (hn : l.length = n) (k : Kp [] w w') (ho : OwnL [] w' w.heap.size (.slice A n c) l) : DecPost xs w (.returned (.tuple #[.agg #[.int .i64 (v : Int), .slice A n c], .int .i64 0])) w' := by
  subst hn
  refine ⟨A, c, by rw [h], ?_, k⟩
  rw [h]
  exact ho
theorem mDec_eq {xs : List Int} {n0 : Nat} {s1 s2 : Option (List Int)} {l : List (List Int)} (h0 : stNum (some xs) = (n0, s1)) (h1 : rdG s1 = (l, s2)) : mDec xs = if s2 = some [] ∧ n0 ≤ 1099511627776 ∧ (n0 = 0 ↔ l = []) then (n0, l, 0) else (0, [], 3) := by
  simp only [mDec, h0, h1]
theorem rdG_small (s : Option (List Int)) : (rdG s).1.length ≤ 8 := by
  unfold rdG
  split
  · simp
  · rw [rdIter_len]; omega

set_option maxHeartbeats 8000000 in
set_option maxRecDepth 100000 in
theorem decode_any (A : Option Addr) (n c : Nat) (xs : List Int) (w : World) (hn : xs.length = n) (h0 : Rd w A (iv .u8 xs)) (hnil : A = none → c = 0) (hb : n ≤ 140737488351232) (hw : Wf xs) :
    Calls Try.prog 18 #[.slice A n c] w (DecPost xs w) := by
  obtain ⟨n0, s1, h0n⟩ : ∃ n s, stNum (some xs) = (n, s) := ⟨_, _, rfl⟩
  obtain ⟨l, s2, h1n⟩ : ∃ n s, rdG s1 = (n, s) := ⟨_, _, rfl⟩
  obtain ⟨m, hm⟩ : ∃ m, l.length = m := ⟨_, rfl⟩
  have hxl : (left (some xs)).length ≤ 140737488351232 := by simp [left]; omega
  have hl1 : (left s1).length ≤ 140737488351232 := by have := left_num hxl; rwa [h0n] at this
  have hm8 : m ≤ 8 := by have := rdG_small s1; rw [h1n] at this; dsimp only at this; omega
  have HQ := As.mk (mDec_eq h0n h1n)
  have HM := As.mk hm
  have HNEW : As (Calls Try.prog 46 #[.slice A n c] (w.alloc (.cells #[.int .i64 0, .slice none 0 0] 36)) fun e w1 => ∃ br gr, e = .returned (.pointer (some ⟨br, 0, none⟩)) ∧ reader.Rdr w1 br gr (some xs) ∧ w.heap.size < br ∧ (∀ x, gr = some x → x < w1.heap.size) ∧ Kp [] w w1 ∧ MapAt w1 w.heap.size 0 (.slice none 0 0)) := ⟨by
    have kA : Kp [] w (w.alloc (.cells #[.int .i64 0, .slice none 0 0] 36)) := (Kp.refl [] w).alloc _
    refine (reader.new_any A n c xs _ hn (kA.rd_new h0 (by simp)) hnil (by omega) hw).mono ?_
    rintro e w1 ⟨br, gr, rfl, R1, B1, G1, K1⟩
    rw [World.size_alloc] at B1
    exact ⟨br, gr, rfl, R1, by omega, fun x hx => (G1 x hx).2, kA.trans K1 (by simp), (MapAt.new w 0 (.slice none 0 0)).kp K1 (by simp)⟩⟩
  have HNUM : As (∀ w1 br gr, reader.Rdr w1 br gr (some xs) → w.heap.size < br → (∀ x, gr = some x → x < w1.heap.size) → Kp [] w w1 → MapAt w1 w.heap.size 0 (.slice none 0 0) → Calls Try.prog 47 #[.pointer (some ⟨br, 0, none⟩)] w1 fun e w2 => e = .returned (.int .i64 (n0 : Int)) ∧ (∃ gr2, reader.Rdr w2 br gr2 s1 ∧ (∀ x, gr2 = some x → x < w2.heap.size)) ∧ br < w2.heap.size ∧ Kp [] w w2 ∧ MapAt w2 w.heap.size 0 (.slice none 0 0)) := ⟨by
    intro w1 br gr R1 hbr hgr k1 m1
    refine (reader.num_any br gr (some xs) w1 R1 (by omega)).mono ?_
    rw [h0n]
    rintro e w2 ⟨rfl, g2, R2, G2, K2⟩
    have hs := K2.size
    refine ⟨rfl, ⟨g2, R2, fun x hx => ?_⟩, R2.lt, k1.trans K2 (fun x hx => .inr (by simp at hx; omega)), m1.kp K2 (by simp; omega)⟩
    rcases G2 with rfl | rfl
    · have := hgr x hx; omega
    · cases hx⟩
  have HRS : As (∀ w2 br gr, reader.Rdr w2 br gr s1 → w.heap.size < br → br < w2.heap.size → (∀ x, gr = some x → x < w2.heap.size) → Kp [] w w2 → MapAt w2 w.heap.size 0 (.slice none 0 0) → Calls Try.prog 48 #[.pointer (some ⟨br, 0, none⟩)] (w2.alloc (.cells #[.int .i64 (n0 : Int), .slice none 0 0] 36)) fun e w3 => ∃ A3 c3, e = .returned (.slice A3 m c3) ∧ OwnL [] w3 (w2.heap.size + 1) (.slice A3 m c3) l ∧ (∃ g3, reader.Rdr w3 br g3 s2 ∧ g3 ≠ some w2.heap.size) ∧ MapAt w3 w2.heap.size n0 (.slice none 0 0) ∧ Kp [] w w3 ∧ MapAt w3 w.heap.size 0 (.slice none 0 0)) := ⟨by
    intro w2 br gr R2 hbr hbr2 hgr k2 m2
    have kA : Kp [] w2 (w2.alloc (.cells #[.int .i64 (n0 : Int), .slice none 0 0] 36)) := (Kp.refl [] w2).alloc _
    refine (readShards_any br gr s1 _ (R2.kp kA (by simp) (by simp)) (fun x hx => by have := hgr x hx; rw [World.size_alloc]; omega) (by omega)).mono ?_
    rw [h1n]
    rintro e w3 ⟨v, rfl, ho, g3, R3, G3, K3⟩
    obtain ⟨A3, c3, rfl, _, _, _, _⟩ := ho.form
    rw [hm, World.size_alloc] at ho
    rw [hm]
    have k3 : Kp [] w w3 := (k2.trans kA (by simp)).trans K3 (fun x hx => .inr (by simp at hx; omega))
    refine ⟨A3, c3, rfl, ho.kp (Kp.refl [] w3) (by simp) (by simp) (by simp), ⟨g3, R3, ?_⟩, (MapAt.new w2 _ _).kp K3 (by simp; omega), k3, (m2.kp kA (by simp)).kp K3 (by simp; omega)⟩
    rcases G3 with rfl | rfl
    · intro e
      have := hgr _ e
      omega
    · simp⟩
  clear hn h0 hnil hw h0n h1n hxl hl1 hm
  go_enter Try.func18, Try.ntmps18
  go_upto_region 4 with (first
    | (go_at_call 46; refine HNEW.out.mono ?_; rintro e w1 ⟨br, gr, rfl, R1, B1, G1, K1, M1⟩; have HN1 := As.mk (HNUM.out w1 br gr R1 B1 G1 K1 M1); have HB1 := As.mk B1; clear R1 B1 G1 K1 M1 HNEW)
    | (go_at_call 47; refine HN1.out.mono ?_; rintro e w2 ⟨rfl, ⟨gr2, R2, G2⟩, B2, K2, M2⟩; have HR2 := As.mk (HRS.out w2 br gr2 R2 HB1.out B2 G2 K2 M2); have HK2 := As.mk K2.size; have HB2 := As.mk B2; clear R2 G2 B2 K2 M2 HN1)
    | (go_at_call 48; refine HR2.out.mono ?_; rintro e w3 ⟨A3, c3, rfl, O3, ⟨g3, D3, G3⟩, M3, K3, N3⟩; obtain ⟨q0, q1⟩ := M3.cells; have f1 := M3.free 1; have HM3 := As.mk M3; have HO3 := As.mk O3; have HD3 := As.mk D3; have HG3 := As.mk G3; have HK3 := As.mk K3; have HN3 := As.mk N3; clear O3 D3 G3 M3 K3 N3 HR2))
  obtain ⟨mS, kS, kS1⟩ := map_set1 HK2.out HK3.out HM3.out (.slice A3 m c3)
  have HWH := As.mk (reader.whole_any br g3 s2 _ (HD3.out.kp kS1 (by have := HB2.out; simp; omega) (fun x hx hm => HG3.out (by simp at hm; rw [hx, hm]))))
  have nS : MapAt (w3.setCell ⟨w2.heap.size, 1, none⟩ (.slice A3 m c3)) w.heap.size 0 (.slice none 0 0) := HN3.out.kp kS1 (by have := HB2.out; have := HB1.out; simp; omega)
  have oS : OwnL [w.heap.size] (w3.setCell ⟨w2.heap.size, 1, none⟩ (.slice A3 m c3)) (w2.heap.size + 1) (.slice A3 m c3) l := by
    have hlo := HK2.out
    have h9 : OwnL [w2.heap.size] w3 (w2.heap.size + 1) (.slice A3 m c3) l := HO3.out.kp (Kp.refl [] w3) (by simp) (by simp) (by intro x hx; simp at hx; right; left; omega)
    obtain ⟨_, _, hv, _, _, _, hlt⟩ := HO3.out.form
    cases hv
    refine h9.kp (S2 := [w.heap.size]) kS1 (fun x hx => .inl hx) (fun y hy hm => ?_) (by intro x hx; simp at hx; right; left; omega)
    rw [ownBlock_slice] at hy
    cases A3 with
    | none => cases hy
    | some a3 =>
      have h8 := (hlt a3 rfl).1
      simp at hy hm
      omega
  obtain ⟨wS, hwS⟩ : ∃ wS, wS = w3.setCell ⟨w2.heap.size, 1, none⟩ (.slice A3 m c3) := ⟨_, rfl⟩
  have hne : w.heap.size < w2.heap.size := by have := HB2.out; have := HB1.out; omega
  rw [← hwS] at mS kS HWH nS oS
  have HMS := As.mk mS
  have HKS := As.mk kS
  have HNS := As.mk nS
  have HOS := As.mk oS
  have HNE := As.mk hne
  rw [← hwS]
  clear kS1 mS kS nS oS q0 q1 f1 hwS hne
  obtain ⟨e0, e1⟩ := HMS.out.cells
  obtain ⟨r0, r1⟩ := HNS.out.cells
  have f0 := HNS.out.free 0
  have f1 := HNS.out.free 1
  by_cases hgood : s2 = some [] ∧ n0 ≤ 1099511627776 ∧ (n0 = 0 ↔ l = [])
  · have HZ : As (mDec xs = (n0, l, 0)) := ⟨by rw [HQ.out, if_pos hgood]⟩
    obtain ⟨hwh, hle, hiff⟩ := hgood
    have hwt : reader.whole s2 = true := by rw [hwh]; rfl
    rw [hwt] at HWH
    have hb1 : ((n0 : Int) == 0) = decide (n0 = 0) := by rw [Bool.eq_iff_iff]; simp
    have hml : (m = 0) ↔ (l = []) := by rw [← HM.out]; exact List.length_eq_zero_iff
    clear hwt hwh
    have HFIN : As (∀ wZ, Kp [w.heap.size] wS wZ → OwnL [] wZ w.heap.size (.slice A3 m c3) l) := ⟨fun wZ kZ => by
      have h9 := HK2.out
      have h8 := HOS.out.kp (S2 := []) kZ (fun x hx => .inl hx) (fun y hy hm => by
        obtain ⟨_, _, hv, _, _, _, hlt⟩ := HOS.out.form
        cases hv
        rw [ownBlock_slice] at hy
        cases A3 with
        | none => cases hy
        | some a3 =>
          have h8 := (hlt a3 rfl).1
          simp at hy hm
          omega) (by simp)
      exact h8.lower (by omega)⟩
    by_cases hz : n0 = 0
    · have hm0 : m = 0 := hml.2 (hiff.1 hz)
      subst hz
      subst hm0
      clear hb1 hml hiff
      go_wp2_with (go_at_call 49; refine HWH.out.mono ?_; rintro e w6 ⟨rfl, rfl⟩; clear HWH)
      have hz := map_set (Nat.le_refl _) HKS.out HNS.out 0 (.slice A3 0 c3)
      (try simp only [Exit.inBlock, Exit.then])
      refine bodyPost_ret (res_map2 rfl rfl hz.1) rfl ?_
      exact DecPost.yes HZ.out HM.out hz.2.1 (HFIN.out _ hz.2.2)
    · have hm0 : m ≠ 0 := fun e => hz (hiff.2 (hml.1 e))
      have b1 : ((n0 : Int) == 0) = false := by rw [beq_eq_false_iff_ne]; omega
      have b2 : ((m : Int) == 0) = false := by rw [beq_eq_false_iff_ne]; omega
      clear hb1 hml hiff hz hm0
      go_wp2_with (go_at_call 49; refine HWH.out.mono ?_; rintro e w6 ⟨rfl, rfl⟩; clear HWH)
      have hz := map_set (Nat.le_refl _) HKS.out HNS.out n0 (.slice A3 m c3)
      (try simp only [Exit.inBlock, Exit.then])
      refine bodyPost_ret (res_map2 rfl rfl hz.1) rfl ?_
      exact DecPost.yes HZ.out HM.out hz.2.1 (HFIN.out _ hz.2.2)
  · have HZ : As (mDec xs = (0, [], 3)) := ⟨by rw [HQ.out, if_neg hgood]⟩
    cases hwh : reader.whole s2 with
    | false =>
      rw [hwh] at HWH
      clear hwh hgood
      go_wp2_with (go_at_call 49; refine HWH.out.mono ?_; rintro e w6 ⟨rfl, rfl⟩; clear HWH)
      have hz := map_set (Nat.le_refl _) HKS.out HNS.out 0 (.slice none 0 0)
      (try simp only [Exit.inBlock, Exit.then])
      refine bodyPost_ret (res_map2 rfl rfl hz.1) rfl ?_
      exact DecPost.no HZ.out hz.2.1
    | true =>
      have hs2 : s2 = some [] := by simpa [reader.whole] using hwh
      rw [hwh] at HWH
      by_cases hle : n0 ≤ 1099511627776
      · have hml : (m = 0) ↔ (l = []) := by rw [← HM.out]; exact List.length_eq_zero_iff
        have hiff : ¬ (n0 = 0 ↔ m = 0) := fun e => hgood ⟨hs2, hle, by rw [e, hml]⟩
        by_cases hz : n0 = 0
        · have hm0 : m ≠ 0 := fun e => hiff ⟨fun _ => e, fun _ => hz⟩
          subst hz
          have b2 : ((m : Int) == 0) = false := by rw [beq_eq_false_iff_ne]; omega
          clear hml hiff hgood hs2 hwh hm0
          go_wp2_with (go_at_call 49; refine HWH.out.mono ?_; rintro e w6 ⟨rfl, rfl⟩; clear HWH)
          have hz := map_set (Nat.le_refl _) HKS.out HNS.out 0 (.slice none 0 0)
          (try simp only [Exit.inBlock, Exit.then])
          refine bodyPost_ret (res_map2 rfl rfl hz.1) rfl ?_
          exact DecPost.no HZ.out hz.2.1
        · have hm0 : m = 0 := by
            by_cases e : m = 0
            · exact e
            · exact absurd ⟨fun h => absurd h hz, fun h => absurd h e⟩ hiff
          subst hm0
          have b1 : ((n0 : Int) == 0) = false := by rw [beq_eq_false_iff_ne]; omega
          clear hml hiff hgood hs2 hwh hz
          go_wp2_with (go_at_call 49; refine HWH.out.mono ?_; rintro e w6 ⟨rfl, rfl⟩; clear HWH)
          have hz := map_set (Nat.le_refl _) HKS.out HNS.out 0 (.slice none 0 0)
          (try simp only [Exit.inBlock, Exit.then])
          refine bodyPost_ret (res_map2 rfl rfl hz.1) rfl ?_
          exact DecPost.no HZ.out hz.2.1
      · clear hgood hs2 hwh
        go_wp2_with (go_at_call 49; refine HWH.out.mono ?_; rintro e w6 ⟨rfl, rfl⟩; clear HWH)
        have hz := map_set (Nat.le_refl _) HKS.out HNS.out 0 (.slice none 0 0)
        (try simp only [Exit.inBlock, Exit.then])
        refine bodyPost_ret (res_map2 rfl rfl hz.1) rfl ?_
        exact DecPost.no HZ.out hz.2.1
end Go.Proofs.Ytiabdeciadfiiaa.man
