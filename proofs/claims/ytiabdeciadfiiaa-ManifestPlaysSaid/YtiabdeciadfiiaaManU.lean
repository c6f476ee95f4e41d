/- The document's Manifest: Apply, Skip, Encode, Decode, Snapshot, Install. -/
import Derived.Test.YtiabdeciadfiiaaManT
import Derived.Deep.RegionLaw
import Derived.Test.YtiabdeciadfiiaaBase
namespace Go.Proofs.Ytiabdeciadfiiaa.mref
open Go.RowKit H O opk refr man

def RApply (T : List Nat) (b : Nat) (ver : Nat) (sh : List (List Int)) (done idx : Int) (xs : List Int) (w : World) (e : Ending) (w' : World) : Prop :=
  ∃ v, e = .returned v ∧ Own 5 .u8 w' w.heap.size v (mApply ver sh done idx xs).2 ∧ RSt T b (mApply ver sh done idx xs).1.1 (mApply ver sh done idx xs).1.2.1 (mApply ver sh done idx xs).1.2.2 w' ∧ Kp [b] w w'

set_option maxHeartbeats 4000000 in
set_option maxRecDepth 100000 in
theorem apply_gen (T : List Nat) (b : Nat) (ver : Nat) (sh : List (List Int)) (done idx : Int) (A : Option Addr) (n c : Nat) (xs : List Int) (w : World) (hM : RSt T b ver sh done w) (hok : MapOk ver sh) (hT : ∀ x ∈ T, x < w.heap.size)
    (hd : 0 ≤ done ∧ done ≤ 1000000) (hn : xs.length = n) (h0 : (∀ a, A = some a → a.block ≠ b) ∨ n = 0) (hr : Rd w A (iv .u8 xs)) (hc : n ≤ c) (hc9 : c ≤ 9223372036854775807) (hnil : A = none → c = 0) (hA : (∀ a, A = some a → a.block < w.heap.size) ∨ n = 0) (hb : n ≤ 140737488351232) (hw : Wf xs) :
    Calls Try.prog 33 #[.pointer (some ⟨b, 0, none⟩), .int .i64 idx, .slice A n c] w (RApply T b ver sh done idx xs w) := by
  obtain ⟨hM2, hK2⟩ := hM.set2 (d := idx)
  obtain ⟨A0, c0, hblk, _⟩ := id hM.blk
  have q2 := blk_cell hblk 2 rfl
  have f2 := blk_free hblk 2
  obtain ⟨hd0, hd1⟩ := hd
  have HM := As.mk hM
  by_cases hi : idx = done + 1
  · subst hi
    have HZ : As (mApply ver sh done (done + 1) xs = (((mDo ver sh xs).1, (mDo ver sh xs).2.1, done + 1), repBytes (mDo ver sh xs).2.2 [((mDo ver sh xs).1 : Int)])) := ⟨by rw [mApply, if_pos rfl]⟩
    obtain ⟨v2, hv2⟩ : ∃ v, v = (mDo ver sh xs).1 := ⟨_, rfl⟩
    obtain ⟨z2, hz2⟩ : ∃ v, v = (mDo ver sh xs).2.2 := ⟨_, rfl⟩
    have HD := As.mk (change_any T b ver sh (done + 1) A n c xs _ hM2 hok (fun x hx => Nat.lt_of_lt_of_le (hT x hx) hK2.size) hn (by
      rcases h0 with h0 | h0
      · exact hK2.rd hr (fun a ha => by simp; exact h0 a ha)
      · have e : xs = [] := List.eq_nil_of_length_eq_zero (by omega)
        rw [e]; exact Rd.nil _ _) hc hc9 hnil (hA.imp (fun h a ha => Nat.lt_of_lt_of_le (h a ha) hK2.size) id) hb hw)
    have HENC : As (∀ w3, Calls Try.prog 59 #[.int .i64 z2, .slice (some ⟨w3.heap.size, 0, none⟩) 1 1] (w3.alloc (.cells #[.int .i64 (v2 : Int)] 3)) fun e w4 => ∃ v4, e = .returned v4 ∧ Own 5 .u8 w4 w3.heap.size v4 (repBytes z2 [(v2 : Int)]) ∧ Kp [] w3 w4) := ⟨fun w3 => by
      refine (refRep_any z2 (some ⟨w3.heap.size, 0, none⟩) 1 1 [(v2 : Int)] _ rfl (rd_one w3 _ _) (Nat.le_refl _) (by simp) (by omega)).mono ?_
      rintro e w4 ⟨v4, rfl, o, k⟩
      rw [World.size_alloc] at o
      exact ⟨v4, rfl, o.lower (by omega), ((Kp.refl [] w3).alloc _).trans k (by simp)⟩⟩
    have HK2 := As.mk hK2
    have HV2 := As.mk hv2
    have HZ2 := As.mk hz2
    clear hM hok hT hn h0 hr hnil hb hw hM2 hK2 hblk hv2 hz2 hc hc9 hA
    go_enter Try.func33, Try.ntmps33
    go_wp2_with (first
      | (go_at_call 58; refine HD.out.mono ?_; rintro e w3 ⟨rfl, M3, K3⟩; rw [← HZ2.out]; rw [← HV2.out] at M3; obtain ⟨A3, c3, hb3, _, _⟩ := id M3.blk; have q0 := blk_cell hb3 0 rfl; have HM3 := As.mk M3; have HK3 := As.mk K3; have HEN := As.mk (HENC.out w3); clear M3 K3 hb3 HD)
      | (go_at_call 59; refine HEN.out.mono ?_; rintro e w4 ⟨v4, rfl, O4, K4⟩; have HO4 := As.mk O4; have HK4 := As.mk K4; clear O4 K4 HEN))
    go_ret
    have hs2 := HK2.out.size
    have hs3 := HK3.out.size
    rw [World.size_setCell] at hs3
    refine ⟨v4, rfl, ?_, ?_, ?_⟩
    · rw [HZ.out, ← HZ2.out, ← HV2.out]
      exact HO4.out.lower (by omega)
    · rw [HZ.out]
      have := HM3.out.kp HK4.out (by simp) (fun x hx => .inl hx) (T2 := T)
      rw [HV2.out] at this
      exact this
    · exact (HK2.out.trans HK3.out (fun x hx => .inl hx)).trans HK4.out (by simp)
  · have HZ : As (mApply ver sh done idx xs = ((ver, sh, done), [])) := ⟨by rw [mApply, if_neg hi]⟩
    have b1 : (idx != done + 1) = true := by simp; exact hi
    clear hM hok hT hn h0 hr hnil hb hw hM2 hK2 hblk hi hc hc9 hA
    go_enter Try.func33, Try.ntmps33
    go_wp2
    go_ret
    exact ⟨_, rfl, by rw [HZ.out]; exact Own.nil _ _ _ _, by rw [HZ.out]; exact HM.out, Kp.refl _ _⟩
theorem apply_any (T : List Nat) (b : Nat) (ver : Nat) (sh : List (List Int)) (done idx : Int) (A : Option Addr) (n c : Nat) (xs : List Int) (w : World) (hM : RSt T b ver sh done w) (hok : MapOk ver sh) (hT : ∀ x ∈ T, x < w.heap.size)
    (hd : 0 ≤ done ∧ done ≤ 1000000) (hn : xs.length = n) (h0 : ∀ a, A = some a → a.block ≠ b) (hr : Rd w A (iv .u8 xs)) (hc : n ≤ c) (hc9 : c ≤ 9223372036854775807) (hnil : A = none → c = 0) (hA : (∀ a, A = some a → a.block < w.heap.size) ∨ n = 0) (hb : n ≤ 140737488351232) (hw : Wf xs) :
    Calls Try.prog 33 #[.pointer (some ⟨b, 0, none⟩), .int .i64 idx, .slice A n c] w (RApply T b ver sh done idx xs w) :=
  apply_gen T b ver sh done idx A n c xs w hM hok hT hd hn (.inl h0) hr hc hc9 hnil hA hb hw

theorem skip_any (T : List Nat) (b : Nat) (ver : Nat) (sh : List (List Int)) (done idx : Int) (w : World) (hM : RSt T b ver sh done w) (hd : 0 ≤ done ∧ done ≤ 1000000) :
    Calls Try.prog 28 #[.pointer (some ⟨b, 0, none⟩), .int .i64 idx] w fun e w' => e = .returned (.tuple #[]) ∧ RSt T b ver sh (skipD done idx) w' ∧ Kp [b] w w' := by
  obtain ⟨hM2, hK2⟩ := hM.set2 (d := idx)
  obtain ⟨A0, c0, hblk, _⟩ := id hM.blk
  have q2 := blk_cell hblk 2 rfl
  have f2 := blk_free hblk 2
  obtain ⟨hd0, hd1⟩ := hd
  have HM := As.mk hM
  have HM2 := As.mk hM2
  have HK2 := As.mk hK2
  by_cases hi : idx = done + 1
  · subst hi
    clear hM hblk hM2 hK2
    go_enter Try.func28, Try.ntmps28
    go_wp2
    go_end0
    exact ⟨rfl, by rw [skipD, if_pos rfl]; exact HM2.out, HK2.out⟩
  · have b1 : (idx == done + 1) = false := by simp; exact hi
    have HI := As.mk hi
    clear hM hblk hM2 hK2 hi
    go_enter Try.func28, Try.ntmps28
    go_wp2
    go_end0
    exact ⟨rfl, by rw [skipD, if_neg HI.out]; exact HM.out, Kp.refl _ _⟩

set_option maxHeartbeats 4000000 in
theorem encode_any (v : Int) (A : Option Addr) (n c : Nat) (l : List (List Int)) (w : World) (hn : l.length = n) (hr : Ri [] w A l) (hm : gSize l ≤ 10000) :
    Calls Try.prog 23 #[.agg #[.int .i64 v, .slice A n c]] w (RetOwn 5 .u8 w (mapB v l)) := by
  have kA : Kp [] w (w.alloc (.cells #[.int .i64 v, .slice A n c] 44)) := (Kp.refl [] w).alloc _
  obtain ⟨m1, hm1⟩ : ∃ m, (num v).length = m := ⟨_, rfl⟩
  obtain ⟨m2, hm2⟩ : ∃ m, (gridB l).length = m := ⟨_, rfl⟩
  have hb1 : m1 ≤ 9 := by rw [← hm1]; exact num_len _
  have hb2 : m2 ≤ 140737488351232 := by have h1 := gridB_len l; omega
  have HM1 := As.mk hm1
  have HM2 := As.mk hm2
  have hA : MapAt (w.alloc (.cells #[.int .i64 v, .slice A n c] 44)) w.heap.size v (.slice A n c) := MapAt.new w _ _
  have HNU : As (∀ wX, Kp [] w wX → MapAt wX w.heap.size v (.slice A n c) → Calls Try.prog 53 #[.int .i64 v] wX fun e w1 => ∃ v1, e = .returned v1 ∧ Own 5 .u8 w1 w.heap.size v1 (num v) ∧ Kp [] w w1 ∧ MapAt w1 w.heap.size v (.slice A n c)) := ⟨fun wX kX mX => by
    refine (ref.num_any v wX).mono ?_
    rintro e w1 ⟨v1, rfl, o1, k1⟩
    exact ⟨v1, rfl, o1.lower kX.size, kX.trans k1 (by simp), mX.kp k1 (by simp)⟩⟩
  have HLS : As (∀ wX, Kp [] w wX → MapAt wX w.heap.size v (.slice A n c) → Calls Try.prog 54 #[.slice A n c] wX fun e w1 => ∃ A1 c1, e = .returned (.slice A1 m2 c1) ∧ Rd w1 A1 (iv .u8 (gridB l)) ∧ (A1 = none → c1 = 0) ∧ Own 5 .u8 w1 wX.heap.size (.slice A1 m2 c1) (gridB l) ∧ Kp [] wX w1 ∧ MapAt w1 w.heap.size v (.slice A n c)) := ⟨fun wX kX mX => by
    refine (lists_any A n c l wX hn (hr.kp kX (by simp) (by simp)) hm).mono ?_
    rintro e w1 ⟨v1, rfl, o1, k1⟩
    obtain ⟨A1, c1, rfl, _, _, r1, n1⟩ := own_rd o1.1
    rw [hm2] at o1 ⊢
    exact ⟨A1, c1, rfl, r1, n1, o1, k1, mX.kp k1 (by simp)⟩⟩
  have HA := As.mk hA
  have HKA := As.mk kA
  obtain ⟨q0, q1⟩ := hA.cells
  clear hn hr hm hm1 hm2 hA kA
  go_enter Try.func23, Try.ntmps23
  go_wp2
  go_region_law (first
    | (refine clone.step8 rfl (.tmp 5) (.tmp 8) rfl v1 m1 (iv .u8 (num v)) rfl HOW2.out A2 m2 c2 (iv .u8 (gridB l)) rfl (by rw [iv_len, HM2.out]) HR2.out HN2.out (iv_one _ _) (by omega) ?_; intro v3 w3 o3 k3 a3; have HO3 := As.mk (own_then HO2.out HM1.out HM2.out HK2.out o3 k3 a3); clear o3 k3 a3)
    | (go_simp; go_at_call 53; refine (HNU.out _ (by first | exact HKA.out | exact HKA.out.drew | exact HKA.out.drewN _) (by first | exact HA.out | exact HA.out.kp (Kp.refl [] _).drew (by simp) | exact HA.out.kp ((Kp.refl [] _).drewN _) (by simp))).mono ?_; rintro e w1 ⟨v1, rfl, o1, k1, m1x⟩; obtain ⟨p0, p1⟩ := m1x.cells; have HO1 := As.mk o1; have HK1 := As.mk k1; have HM1x := As.mk m1x; clear o1 k1 m1x)
    | (go_simp; go_at_call 54; refine (HLS.out _ (by first | exact HK1.out | exact HK1.out.drew | exact HK1.out.drewN _) (by first | exact HM1x.out | exact HM1x.out.kp (Kp.refl [] _).drew (by simp) | exact HM1x.out.kp ((Kp.refl [] _).drewN _) (by simp))).mono ?_; rintro e w2 ⟨A2, c2, rfl, r2, n2, _, k2, _⟩; have kk2 : Kp [] w1 w2 := (by first | exact k2 | exact (Kp.refl [] _).drew.trans k2 (by simp) | exact ((Kp.refl [] _).drewN _).trans k2 (by simp)); have HR2 := As.mk r2; have HN2 := As.mk n2; have HO2 := As.mk (HO1.out.kp kk2 (by simp)); have HOW2 : As (w2.ownsRow 0 5 1 v1 m1 (iv .u8 (num v))) := ⟨by rw [← HM1.out]; exact HO2.out.1⟩; have HK2 : As (Kp [] w w2) := ⟨HK1.out.trans kk2 (by simp)⟩; clear r2 n2 k2 kk2))
  all_goals go_wp2
  all_goals go_ret
  all_goals exact ⟨_, rfl, HO3.out.1, HO3.out.2⟩

set_option maxHeartbeats 8000000 in
set_option maxRecDepth 100000 in
theorem decode_any (A : Option Addr) (n c : Nat) (xs : List Int) (w : World) (hn : xs.length = n) (h0 : Rd w A (iv .u8 xs)) (hc : n ≤ c) (hc9 : c ≤ 9223372036854775807) (hnil : A = none → c = 0) (hA : (∀ a, A = some a → a.block < w.heap.size) ∨ n = 0) (hb : n ≤ 140737488351232) (hw : Wf xs) :
    Calls Try.prog 19 #[.slice A n c] w (DecPost xs w) := by
  obtain ⟨n0, s1, h0n⟩ : ∃ n s, stNum (some xs) = (n, s) := ⟨_, _, rfl⟩
  obtain ⟨l, s2, h1n⟩ : ∃ n s, rdG s1 = (n, s) := ⟨_, _, rfl⟩
  have hxl : (left (some xs)).length ≤ 140737488351232 := by simp [left]; omega
  have hl1 : (left s1).length ≤ 140737488351232 := by have := left_num hxl; rwa [h0n] at this
  have HQ := As.mk (mDec_eq h0n h1n)
  have kA : Kp [] w (w.alloc (.cells #[.int .i64 0, .slice none 0 0] 44)) := (Kp.refl [] w).alloc _
  have HNUM : As (Calls Try.prog 50 #[.pointer (some ⟨w.heap.size + 1, 0, none⟩)] ((w.alloc (.cells #[.int .i64 0, .slice none 0 0] 44)).alloc (.cells #[.slice A n c, .bool false] 94)) fun e w2 => e = .returned (.int .i64 (n0 : Int)) ∧ (∃ gr2, Rdr w2 (w.heap.size + 1) gr2 s1 ∧ (∀ x, gr2 = some x → x < w2.heap.size)) ∧ w.heap.size + 1 < w2.heap.size ∧ Kp [] w w2 ∧ MapAt w2 w.heap.size 0 (.slice none 0 0)) := ⟨by
    have h9 := first_num (w := w.alloc (.cells #[.int .i64 0, .slice none 0 0] 44)) hn (kA.rd_new h0 (by simp)) hc hc9 hnil (hA.imp (fun h a ha => by have := h a ha; rw [World.size_alloc]; omega) id) hw hb h0n
    rw [World.size_alloc] at h9
    refine h9.mono ?_
    rintro e w2 ⟨rfl, h2, K2, S2⟩
    exact ⟨rfl, h2, S2, kA.trans K2 (by simp), (MapAt.new w _ _).kp K2 (by simp)⟩⟩
  have HRS : As (∀ w2 gr, Rdr w2 (w.heap.size + 1) gr s1 → w.heap.size + 1 < w2.heap.size → (∀ x, gr = some x → x < w2.heap.size) → Kp [] w w2 → MapAt w2 w.heap.size 0 (.slice none 0 0) → Calls Try.prog 51 #[.pointer (some ⟨w.heap.size + 1, 0, none⟩)] w2 fun e w3 => ∃ A3 c3 l3 m3, e = .returned (.slice A3 m3 c3) ∧ l3.length = m3 ∧ (s2.isSome → l3 = l) ∧ m3 ≤ 8 ∧ OwnL [] w3 (w.heap.size + 2) (.slice A3 m3 c3) l3 ∧ (∃ g3, Rdr w3 (w.heap.size + 1) g3 s2) ∧ Kp [] w w3 ∧ MapAt w3 w.heap.size 0 (.slice none 0 0)) := ⟨by
    intro w2 gr R2 hbr2 hgr k2 m2
    refine (readLists_any (w.heap.size + 1) gr s1 w2 R2 hgr (by omega)).mono ?_
    rintro e w3 ⟨l3, hl3, h83, v, rfl, ho, g3, R3, G3, K3⟩
    rw [h1n] at hl3 R3
    obtain ⟨A3, c3, rfl, _, _, _, _⟩ := ho.form
    exact ⟨A3, c3, l3, _, rfl, rfl, hl3, h83, (ho.kp (Kp.refl [] w3) (by simp) (by simp) (by simp)).lower (by omega), ⟨g3, R3⟩, k2.trans K3 (by intro x hx; simp at hx; right; omega), m2.kp K3 (by simp)⟩⟩
  clear hn h0 hnil hw h0n h1n hxl hl1 hc hc9 hA kA
  go_enter Try.func19, Try.ntmps19
  go_upto_region 3 with (first
    | (go_at_call 50; refine HNUM.out.mono ?_; rintro e w2 ⟨rfl, ⟨gr2, R2, G2⟩, B2, K2, M2⟩; have HR2 := As.mk (HRS.out w2 gr2 R2 B2 G2 K2 M2); clear R2 G2 B2 K2 M2 HNUM)
    | (go_at_call 51; refine HR2.out.mono ?_; rintro e w3 ⟨A3, c3, l3, m3, rfl, hl3, hi3, h83, O3, ⟨g3, D3⟩, K3, N3⟩; have HL3 := As.mk hl3; have HI3 := As.mk hi3; have HO3 := As.mk O3; have HD3 := As.mk D3; have HK3 := As.mk K3; have HN3 := As.mk N3; clear hl3 hi3 O3 D3 K3 N3 HR2))
  obtain ⟨wS, hwS⟩ : ∃ wS, wS = w3.alloc (.cells #[.int .i64 (n0 : Int), .slice A3 m3 c3] 44) := ⟨_, rfl⟩
  have kS1 : Kp [] w3 wS := by rw [hwS]; exact (Kp.refl [] w3).alloc _
  have mS : MapAt wS w3.heap.size n0 (.slice A3 m3 c3) := by rw [hwS]; exact MapAt.new w3 _ _
  have HKS : As (Kp [] w wS) := ⟨HK3.out.trans kS1 (by simp)⟩
  have nS : MapAt wS w.heap.size 0 (.slice none 0 0) := HN3.out.kp kS1 (by simp)
  have HWH := As.mk (whole_any (w.heap.size + 1) g3 s2 wS (HD3.out.kp kS1 (by simp) (by simp)))
  have HOS : As (OwnL [w.heap.size] wS (w.heap.size + 2) (.slice A3 m3 c3) l3) := ⟨HO3.out.kp kS1 (by simp) (by simp) (by intro x hx; simp at hx; right; left; omega)⟩
  rw [← hwS]
  have HNS := As.mk nS
  obtain ⟨e0, e1⟩ := mS.cells
  obtain ⟨r0, r1⟩ := nS.cells
  have f0 := nS.free 0
  have f1 := nS.free 1
  have hlt3 : w.heap.size < w3.heap.size := lt_of_block HN3.out
  have d1 : ¬ w.heap.size = w3.heap.size := by omega
  have d2 : ¬ w3.heap.size = w.heap.size := by omega
  clear kS1 mS nS hwS
  by_cases hgood : s2 = some [] ∧ n0 ≤ 1099511627776 ∧ (n0 = 0 ↔ l = [])
  · have HZ : As (mDec xs = (n0, l, 0)) := ⟨by rw [HQ.out, if_pos hgood]⟩
    obtain ⟨hwh, hle, hiff⟩ := hgood
    have hwt : whole s2 = true := by rw [hwh]; rfl
    rw [hwt] at HWH
    have hll : l3 = l := HI3.out (by rw [hwh]; rfl)
    have hml : (m3 = 0) ↔ (l = []) := by rw [← HL3.out, hll]; exact List.length_eq_zero_iff
    have HFIN : As (∀ wZ, Kp [w.heap.size] wS wZ → OwnL [] wZ w.heap.size (.slice A3 m3 c3) l) := ⟨fun wZ kZ => by
      have hlt2 : ∀ a, A3 = some a → (w.heap.size + 2 ≤ a.block ∧ a.block < wS.heap.size) := by
        obtain ⟨_, _, hv, _, _, _, h⟩ := HOS.out.form
        cases hv
        exact h
      have h8 := HOS.out.kp (S2 := []) kZ (fun x hx => .inl hx) (fun y hy hm => by
        rw [ownBlock_slice] at hy
        cases A3 with
        | none => cases hy
        | some a3 =>
          have h8 := (hlt2 a3 rfl).1
          simp at hy hm
          omega) (by simp)
      rw [hll] at h8
      exact h8.lower (by omega)⟩
    have HLL : As (l.length = m3) := ⟨by rw [← hll]; exact HL3.out⟩
    clear hwt hwh hll
    by_cases hz : n0 = 0
    · have hm0 : m3 = 0 := hml.2 (hiff.1 hz)
      subst hz
      subst hm0
      clear hml hiff
      go_wp2_with (go_at_call 52; refine HWH.out.mono ?_; rintro e w6 ⟨rfl, rfl⟩; clear HWH)
      have hz := map_set (Nat.le_refl _) HKS.out HNS.out 0 (.slice A3 0 c3)
      (try simp only [Exit.inBlock, Exit.then])
      refine bodyPost_ret (res_map2 rfl rfl hz.1) rfl ?_
      exact DecPost.yes HZ.out HLL.out hz.2.1 (HFIN.out _ hz.2.2)
    · have hm0 : m3 ≠ 0 := fun e => hz (hiff.2 (hml.1 e))
      have b1 : ((n0 : Int) == 0) = false := by rw [beq_eq_false_iff_ne]; omega
      have b2 : ((m3 : Int) == 0) = false := by rw [beq_eq_false_iff_ne]; omega
      clear hml hiff hz hm0
      go_wp2_with (go_at_call 52; refine HWH.out.mono ?_; rintro e w6 ⟨rfl, rfl⟩; clear HWH)
      have hz := map_set (Nat.le_refl _) HKS.out HNS.out n0 (.slice A3 m3 c3)
      (try simp only [Exit.inBlock, Exit.then])
      refine bodyPost_ret (res_map2 rfl rfl hz.1) rfl ?_
      exact DecPost.yes HZ.out HLL.out hz.2.1 (HFIN.out _ hz.2.2)
  · have HZ : As (mDec xs = (0, [], 3)) := ⟨by rw [HQ.out, if_neg hgood]⟩
    cases hwh : whole s2 with
    | false =>
      rw [hwh] at HWH
      clear hwh hgood
      go_wp2_with (go_at_call 52; refine HWH.out.mono ?_; rintro e w6 ⟨rfl, rfl⟩; clear HWH)
      have hz := map_set (Nat.le_refl _) HKS.out HNS.out 0 (.slice none 0 0)
      (try simp only [Exit.inBlock, Exit.then])
      refine bodyPost_ret (res_map2 rfl rfl hz.1) rfl ?_
      exact DecPost.no HZ.out hz.2.1
    | true =>
      have hs2 : s2 = some [] := by simpa [whole] using hwh
      rw [hwh] at HWH
      have hll : l3 = l := HI3.out (by rw [hs2]; rfl)
      by_cases hle : n0 ≤ 1099511627776
      · have hml : (m3 = 0) ↔ (l = []) := by rw [← HL3.out, hll]; exact List.length_eq_zero_iff
        have hiff : ¬ (n0 = 0 ↔ m3 = 0) := fun e => hgood ⟨hs2, hle, by rw [e, hml]⟩
        by_cases hz : n0 = 0
        · have hm0 : m3 ≠ 0 := fun e => hiff ⟨fun _ => e, fun _ => hz⟩
          subst hz
          have b2 : ((m3 : Int) == 0) = false := by rw [beq_eq_false_iff_ne]; omega
          clear hml hiff hgood hs2 hwh hm0 hll
          go_wp2_with (go_at_call 52; refine HWH.out.mono ?_; rintro e w6 ⟨rfl, rfl⟩; clear HWH)
          have hz := map_set (Nat.le_refl _) HKS.out HNS.out 0 (.slice none 0 0)
          (try simp only [Exit.inBlock, Exit.then])
          refine bodyPost_ret (res_map2 rfl rfl hz.1) rfl ?_
          exact DecPost.no HZ.out hz.2.1
        · have hm0 : m3 = 0 := by
            by_cases e : m3 = 0
            · exact e
            · exact absurd ⟨fun h => absurd h hz, fun h => absurd h e⟩ hiff
          subst hm0
          have b1 : ((n0 : Int) == 0) = false := by rw [beq_eq_false_iff_ne]; omega
          clear hml hiff hgood hs2 hwh hz hll
          go_wp2_with (go_at_call 52; refine HWH.out.mono ?_; rintro e w6 ⟨rfl, rfl⟩; clear HWH)
          have hz := map_set (Nat.le_refl _) HKS.out HNS.out 0 (.slice none 0 0)
          (try simp only [Exit.inBlock, Exit.then])
          refine bodyPost_ret (res_map2 rfl rfl hz.1) rfl ?_
          exact DecPost.no HZ.out hz.2.1
      · clear hgood hs2 hwh hll
        go_wp2_with (go_at_call 52; refine HWH.out.mono ?_; rintro e w6 ⟨rfl, rfl⟩; clear HWH)
        have hz := map_set (Nat.le_refl _) HKS.out HNS.out 0 (.slice none 0 0)
        (try simp only [Exit.inBlock, Exit.then])
        refine bodyPost_ret (res_map2 rfl rfl hz.1) rfl ?_
        exact DecPost.no HZ.out hz.2.1

theorem snapshot_any (T : List Nat) (b : Nat) (ver : Nat) (sh : List (List Int)) (done : Int) (w : World) (hM : RSt T b ver sh done w) (hok : MapOk ver sh) :
    Calls Try.prog 32 #[.pointer (some ⟨b, 0, none⟩)] w (RetOwn 5 .u8 w (mapB ver sh)) := by
  obtain ⟨A, c, hb, hri, hc, hc9, hnil⟩ := hM.blk
  have q0 := blk_cell hb 0 rfl
  have q1 := blk_cell hb 1 rfl
  obtain ⟨n, hn⟩ : ∃ n, sh.length = n := ⟨_, rfl⟩
  rw [hn] at q1
  have HENC := As.mk (encode_any (ver : Int) A n c sh w hn (hri.sub (by simp)) (gSize_ok hok))
  clear hM hok hb hri hc hc9 hnil hn
  go_enter Try.func32, Try.ntmps32
  go_wp2_with (go_at_call 23; refine HENC.out.mono ?_; rintro e w1 ⟨v1, rfl, o1, k1⟩; have HO := As.mk o1; have HK := As.mk k1; clear o1 k1 HENC)
  go_ret
  exact ⟨v1, rfl, HO.out, HK.out⟩

def RInst (T : List Nat) (b : Nat) (ver : Nat) (sh : List (List Int)) (done idx : Int) (xs : List Int) (w : World) (e : Ending) (w' : World) : Prop :=
  e = .returned (.int .i64 (mDec xs).2.2) ∧ RSt T b (instD ver sh done idx xs).1 (instD ver sh done idx xs).2.1 (instD ver sh done idx xs).2.2 w' ∧ Kp [b] w w'

set_option maxHeartbeats 4000000 in
set_option maxRecDepth 100000 in
theorem install_any (T : List Nat) (b : Nat) (ver : Nat) (sh : List (List Int)) (done idx : Int) (A : Option Addr) (n c : Nat) (xs : List Int) (w : World) (hM : RSt T b ver sh done w) (hT : ∀ x ∈ T, x < w.heap.size)
    (hn : xs.length = n) (hr : Rd w A (iv .u8 xs)) (hc : n ≤ c) (hc9 : c ≤ 9223372036854775807) (hnil : A = none → c = 0) (hA : (∀ a, A = some a → a.block < w.heap.size) ∨ n = 0) (hb : n ≤ 140737488351232) (hw : Wf xs) :
    Calls Try.prog 30 #[.pointer (some ⟨b, 0, none⟩), .int .i64 idx, .slice A n c] w (RInst T b ver sh done idx xs w) := by
  obtain ⟨v2, hv2⟩ : ∃ v, (mDec xs).1 = v := ⟨_, rfl⟩
  obtain ⟨l2, hl2⟩ : ∃ v, (mDec xs).2.1 = v := ⟨_, rfl⟩
  obtain ⟨z2, hz2⟩ : ∃ v, (mDec xs).2.2 = v := ⟨_, rfl⟩
  obtain ⟨m, hm⟩ : ∃ m, l2.length = m := ⟨_, rfl⟩
  have HE : As ((mDec xs).1 = v2 ∧ (mDec xs).2.1 = l2 ∧ (mDec xs).2.2 = z2) := ⟨⟨hv2, hl2, hz2⟩⟩
  have HML := As.mk hm
  have HM := As.mk hM
  have hbl := hM.lt
  have HB9 : As (∀ x ∈ b :: T, x < w.heap.size) := ⟨fun x hx => by
    rcases List.mem_cons.1 hx with rfl | hx
    · exact hbl
    · exact hT x hx⟩
  have HD2 : As (Calls Try.prog 19 #[.slice A n c] w fun e w1 => ∃ A1 c1, e = .returned (.tuple #[.agg #[.int .i64 (v2 : Int), .slice A1 m c1], .int .i64 z2]) ∧ OwnL [] w1 w.heap.size (.slice A1 m c1) l2 ∧ Kp [] w w1) := ⟨by
    refine (decode_any A n c xs w hn hr hc hc9 hnil hA hb hw).mono ?_
    rintro e w1 ⟨A1, c1, rfl, o, k⟩
    rw [hv2, hl2, hz2, hm]
    rw [hl2, hm] at o
    exact ⟨A1, c1, rfl, o, k⟩⟩
  by_cases hz : z2 = 0
  · subst hz
    have HZ : As (instD ver sh done idx xs = (v2, l2, idx)) := ⟨by rw [instD, hz2, if_pos rfl, hv2, hl2]⟩
    clear hM hT hn hr hnil hb hw hv2 hl2 hz2 hm hc hc9 hA
    go_enter Try.func30, Try.ntmps30
    go_wp2_with (go_at_call 19; refine HD2.out.mono ?_; rintro e w1 ⟨A1, c1, rfl, o1, k1⟩; have M1 := HM.out.kp k1 (by simp) (fun x hx => .inl hx) (T2 := T); obtain ⟨A0, c0, hb1, _⟩ := id M1.blk; have q0 := blk_cell hb1 0 rfl; have q1 := blk_cell hb1 1 rfl; have q2 := blk_cell hb1 2 rfl; have f0 := blk_free hb1 0; have f1 := blk_free hb1 1; have f2 := blk_free hb1 2; have hs1 : b < w1.heap.size := lt_of_block hb1; have d1 : ¬ b = w1.heap.size := (by omega); have HO1 := As.mk o1; have HK1 := As.mk k1; have HM1 := As.mk M1; clear o1 k1 M1 hb1 HD2)
    go_ret
    have h3 := HM1.out.set01 (ver2 := v2) HML.out HO1.out HB9.out
    have h4 := h3.1.set2 (d := idx)
    refine ⟨by rw [HE.out.2.2]; rfl, ?_, (((HK1.out.mono (T := [b]) (by simp)).trans h3.2 (fun x hx => .inl hx)).trans h4.2 (fun x hx => .inl hx)).alloc _⟩
    rw [HZ.out]
    exact h4.1.kp ((Kp.refl [] _).alloc _) (by simp) (fun x hx => .inl hx)
  · have HZ : As (instD ver sh done idx xs = (ver, sh, done)) := ⟨by rw [instD, hz2, if_neg hz]⟩
    have b1 : (z2 == 0) = false := by simpa using hz
    clear hM hT hn hr hnil hb hw hv2 hl2 hz2 hm hz hc hc9 hA
    go_enter Try.func30, Try.ntmps30
    go_wp2_with (go_at_call 19; refine HD2.out.mono ?_; rintro e w1 ⟨A1, c1, rfl, o1, k1⟩; have HK1 := As.mk k1; clear o1 k1 HD2)
    go_ret
    exact ⟨by rw [HE.out.2.2]; rfl, by rw [HZ.out]; exact HM.out.kp (HK1.out.alloc _) (by simp) (fun x hx => .inl hx), (HK1.out.alloc _).mono (by simp)⟩
end Go.Proofs.Ytiabdeciadfiiaa.mref
