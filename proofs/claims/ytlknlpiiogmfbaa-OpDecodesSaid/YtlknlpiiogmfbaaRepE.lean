/- op.DecodeReply: the walk. -/
import Derived.Test.YtlknlpiiogmfbaaRepD
namespace Go.Proofs.Ytlknlpiiogmfbaa.opk
open Go.RowKit H O haystacklaw13

theorem res_rep {fn : Func} {tmps : Array Value} {w : World} {R : Nat} {er : Int} {v : Value} (hf : fn.results = #[.cell 2 52, .tmp 3]) (h2 : tmps.getD 2 undef = .pointer (some ⟨R, 0, none⟩)) (h : RepAt w R er v) :
    (results fn tmps).run Try.prog w = .ok (.tuple #[.agg #[.int .i64 er, v], tmps.getD 3 undef]) w := by
  have hl := run_loadVar_row (P := Try.prog) w R 52 52 _ (0, 0) _ h Try.underlying52 rfl (by kernel_rfl)
  rw [results_cell_tmp hf, h2]
  simp [asAddr, hl, Result.andThen]
theorem rep_set {w w7 : World} {er0 : Int} {v0 : Value} (hk : Kp [] w w7) (h : RepAt w7 w.heap.size er0 v0) (er : Int) (v : Value) :
    RepAt ((w7.setCell ⟨w.heap.size, 0, none⟩ (.int .i64 er)).setCell ⟨w.heap.size, 1, none⟩ v) w.heap.size er v ∧ Kp [] w ((w7.setCell ⟨w.heap.size, 0, none⟩ (.int .i64 er)).setCell ⟨w.heap.size, 1, none⟩ v) ∧ Kp [w.heap.size] w7 ((w7.setCell ⟨w.heap.size, 0, none⟩ (.int .i64 er)).setCell ⟨w.heap.size, 1, none⟩ v) := by
  have e1 : RepAt (w7.setCell ⟨w.heap.size, 0, none⟩ (.int .i64 er)) w.heap.size er v0 := heap_setCell_same w7 w.heap.size 0 _ _ (.int .i64 er) h
  have e2 : RepAt ((w7.setCell ⟨w.heap.size, 0, none⟩ (.int .i64 er)).setCell ⟨w.heap.size, 1, none⟩ v) w.heap.size er v := heap_setCell_same _ w.heap.size 1 _ _ v e1
  have kk : Kp [w.heap.size] w7 ((w7.setCell ⟨w.heap.size, 0, none⟩ (.int .i64 er)).setCell ⟨w.heap.size, 1, none⟩ v) := ((Kp.refl _ w7).setCell (.inl (by simp)) _).setCell (.inl (by simp)) _
  exact ⟨e2, hk.trans kk (by simp), kk⟩
theorem drep_none {xs : List Int} {w w' : World} (h : dRep xs = (0, [], 3)) (k : Kp [] w w') : DRep xs w (.returned (.tuple #[.agg #[.int .i64 0, .slice none 0 0], .int .i64 3])) w' :=
  ⟨0, [], 3, none, 0, 0, h, rfl, rfl, Rd.nil _ _, Nat.le_refl _, fun _ => rfl, k⟩
theorem DR.start {w w4 : World} {M b n0 n1 : Nat} {s : Option (List Int)} {g : Option Nat} (kp : Kp [] w w4) (res : RepAt w4 w.heap.size 0 (.slice none 0 0)) (many : w4.cell? ⟨M, 0, none⟩ = some (.int .i64 n1)) (R : reader.Rdr w4 b g s) (hg : ∀ y, g = some y → w.heap.size < y ∧ y < w4.heap.size) (hb : w.heap.size < b) (hM : w.heap.size < M) (hMb : M ≠ b) :
    DR w (w4.alloc (.cells #[.int .i64 n0, .slice none 0 0] 52)) M b w4.heap.size n0 n1 (.slice none 0 0) [] s := by
  have ka := (Kp.refl [] w4).alloc (.cells #[.int .i64 n0, .slice none 0 0] 52)
  exact ⟨kp.trans ka (by simp), res.kp ka (by simp), ka.cell many (by simp), heap_alloc_new w4 _, World.ownsRow_nil _ 0 _ 1, by simp [Value.ownBlock], ⟨g, R.kp ka (by simp) (by simp), hg⟩, hb, hM, R.lt, World.block_lt_of_cell? w4 _ many, hMb⟩

set_option maxHeartbeats 8000000 in
set_option maxRecDepth 100000 in
theorem decRep_any (A : Option Addr) (n c : Nat) (xs : List Int) (w : World) (hn : xs.length = n) (hr : Rd w A (iv .u8 xs)) (hnil : A = none → c = 0) (hw : Wf xs) (hm : n ≤ 1000000) :
    Calls Try.prog 34 #[.slice A n c] w (DRep xs w) := by
  have HNEW : As (∀ wX, Kp [] w wX → Calls Try.prog 62 #[.slice A n c] wX (reader.NewRdr xs wX)) := ⟨fun wX k => reader.new_any A n c xs wX hn (k.rd_new hr (by simp)) hnil (by omega) hw⟩
  obtain ⟨n0, s1, h0⟩ : ∃ a b, stNum (some xs) = (a, b) := ⟨_, _, rfl⟩
  obtain ⟨n1, s2, h1⟩ : ∃ a b, stNum s1 = (a, b) := ⟨_, _, rfl⟩
  obtain ⟨s', hs'⟩ : ∃ s', sRep n0 n1 s2 = s' := ⟨_, rfl⟩
  have he := dRep_eq h0 h1
  simp only [hs'] at he
  have hl0 : (left (some xs)).length ≤ 70368744177664 := by simp [left]; omega
  have hl2 : (left s2).length ≤ 70368744177664 := by
    have q1 := reader.left_le hl0
    rw [h0] at q1
    have q2 := reader.left_le q1
    rwa [h1] at q2
  have hl' : (left s').length ≤ 70368744177664 := by
    rw [← hs', sRep]
    split
    · exact hl2
    · simp [left]
  have hn1 : s' ≠ none → n1 ≤ 8 := by
    intro h
    rw [← hs', sRep] at h
    split at h
    · rename_i h9; exact h9.2
    · exact absurd rfl h
  have HE := As.mk he
  have H0 := As.mk h0
  have H1 := As.mk h1
  have HL0 := As.mk hl0
  have HL' := As.mk hl'
  have HN1 := As.mk hn1
  clear he h0 h1 hl0 hl2 hl' hn1 hn hr hnil hw
  by_cases hok : n0 ≤ 100 ∧ n1 ≤ 8
  · obtain ⟨ha, hb⟩ := hok
    have hss : s2 = s' := by rw [← hs', sRep, if_pos ⟨ha, hb⟩]
    obtain rfl : s' = s2 := hss.symm
    clear hs'
    go_enter Try.func34, Try.ntmps34
    go_wp2_with (first
      | (go_at_call 62; refine (HNEW.out _ ((Kp.refl [] w).alloc _)).mono ?_; rintro e w2 ⟨b, g, rfl, R2, hb2, hg2, K2⟩; have r2 : RepAt w2 w.heap.size 0 (.slice none 0 0) := K2.blk (heap_alloc_new w _) (by simp); have HK2 : As (Kp [] w w2) := ⟨((Kp.refl [] w).alloc _).trans K2 (by simp)⟩; rw [World.size_alloc] at hb2 hg2; have HBS := As.mk hb2; have HGS := As.mk hg2; have HBL := As.mk R2.lt; have HQ2 := As.mk r2; have HNU := As.mk (rep_nums R2 (fun x hx => (hg2 x hx).2) HL0.out H0.out H1.out); clear R2 hb2 hg2 K2 r2 HNEW)
      | (go_at_call 63; refine HNU.out.mono ?_; rintro e w3 ⟨rfl, ⟨g3, R3, G3⟩, d0, d1, k3, s3⟩; have HK3 : As (Kp [] w w3) := ⟨HK2.out.trans k3 (by intro x hx; simp at hx; have := HBS.out; omega)⟩; have HST := As.mk (DR.start (n0 := n0) HK3.out (HQ2.out.kp k3 (by have := HBS.out; simp; omega)) d1 R3 (fun y hy => by have h9 : g = some y := (by rcases G3 with h | h; rw [← h]; exact hy; rw [h] at hy; cases hy); have h8 := HGS.out y h9; have h7 := k3.size; omega) (by have := HBS.out; omega) (by have := HK2.out.size; omega) (by have := HBL.out; omega)); clear R3 G3 k3 s3 HNU))
    go_loopw [31] (fun _ wr => ∃ (k cX : Nat) (AX : Option Addr), k ≤ n1 ∧ As (DR w wr (w2.heap.size + 1) b w3.heap.size n0 n1 (.slice AX k cX) (stNums k s').1 (stNums k s').2)) (fun _ wr => n1 - lenAt wr w3.heap.size)
    case atStart => exact ⟨0, 0, none, by omega, ⟨HST.out⟩⟩
    case round =>
      obtain ⟨k, cX, AX, hk, HD⟩ := hrel
      obtain ⟨e0, e1⟩ := HD.out.x.cells
      have dm := HD.out.many
      have hlen := HD.out.x.lenAt
      obtain ⟨gk, hRk, hgk⟩ := HD.out.rdr
      have hlk := reader.stNums_len k s'
      have hleft := reader.stNums_left (k := k) HL'.out
      by_cases hlt : k < n1
      · cases hst : (stNums k s').2 with
        | none =>
          rw [hst] at hRk HD
          have HG : As (Calls Try.prog 65 #[.pointer (some ⟨b, 0, none⟩)] wr fun e w' => e = .returned (.bool false) ∧ w' = wr) := ⟨reader.good_any b gk none wr hRk⟩
          have HWH : As (Calls Try.prog 67 #[.pointer (some ⟨b, 0, none⟩)] wr fun e w' => e = .returned (.bool false) ∧ w' = wr) := ⟨reader.whole_any b gk none wr hRk⟩
          have HZ : As (dRep xs = (0, [], 3)) := ⟨by rw [HE.out, stNums_stay hst (by omega), if_neg (by simp)]⟩
          obtain ⟨q0, q1⟩ := HD.out.res.cells
          have f0 := HD.out.res.free 0
          have f1 := HD.out.res.free 1
          clear hRk hgk hst hleft hlk
          go_wp2_with (first
            | (go_at_call 65; refine HG.out.mono ?_; rintro e w5 ⟨rfl, rfl⟩; clear HG)
            | (go_at_call 67; refine HWH.out.mono ?_; rintro e w6 ⟨rfl, rfl⟩; clear HWH))
          have hz := rep_set HD.out.kp HD.out.res 0 (.slice none 0 0)
          (try simp only [Exit.inBlock, Exit.then])
          refine bodyPost_ret (res_rep rfl rfl hz.1) rfl ?_
          exact drep_none HZ.out hz.2.1
        | some rest =>
          have hs9 : s' ≠ none := by intro h; rw [h, stNums_none] at hst; cases hst
          have hn8 : n1 ≤ 8 := HN1.out hs9
          rw [hst] at hRk HD hleft
          have HG : As (Calls Try.prog 65 #[.pointer (some ⟨b, 0, none⟩)] wr fun e w' => e = .returned (.bool true) ∧ w' = wr) := ⟨reader.good_any b gk (some rest) wr hRk⟩
          obtain ⟨y, st', hy⟩ : ∃ a b, stNum (some rest) = (a, b) := ⟨_, _, rfl⟩
          have hnm := reader.num_any b gk (some rest) wr.drew (hRk.kp ((Kp.refl [] wr).drew) (by simp) (by simp)) hleft
          rw [hy] at hnm
          have HNM := As.mk hnm
          have HDD := As.mk (HD.out.skip ((Kp.refl [] wr).drew))
          have HGK := As.mk hgk
          have HLK := As.mk hlk
          have HNX : As ((stNums (k + 1) s').1 = (stNums k s').1 ++ [(y : Int)] ∧ (stNums (k + 1) s').2 = st') := ⟨by rw [reader.stNums_snoc, hst, hy]; exact ⟨rfl, rfl⟩⟩
          have hXlt : w3.heap.size < wr.heap.size := lt_of_block HD.out.x
          clear hRk hgk hst hleft hlk hs9 hnm hy
          go_wp2_with (go_at_call 65; refine HG.out.mono ?_; rintro e w5 ⟨rfl, rfl⟩; clear HG)
          go_region_law (first
            | (refine step64_one rfl (.tmp 33) (.tmp 36) rfl (.slice AX k cX) k (iv .i64 (stNums k s').1) rfl (by have h9 := HD6.out.own; rw [HLK.out] at h9; exact h9.alloc _) w6.heap.size (y : Int) rfl (by simp) (by omega) ?_; intro v7 w7 o7 k7 a7; have h7 := (HD6.out.skip ((Kp.refl [] w6).alloc _)).put HLK.out o7 k7 a7; obtain ⟨x7, z7, h7⟩ := h7; obtain ⟨A7, c7, rfl, _⟩ := own_rd o7; have HD7 := As.mk h7; clear o7 k7 a7 h7)
            | (go_simp; go_at_call 66; refine HNM.out.mono ?_; rintro e w6 HP; obtain ⟨rfl, g6, R6, G6, K6⟩ := HP; have h6 := HDD.out.took HGK.out R6 G6 K6; have HD6 := As.mk h6; obtain ⟨e60, e61⟩ := h6.x.cells; have hX6 : w3.heap.size < w6.heap.size := lt_of_block h6.x; clear R6 G6 K6 h6 HNM))
          all_goals
            go_roundw
            case rel => exact ⟨_, _, _, _, _, _, _, _, _, _, _, _, _, _, _, _, ⟨k + 1, c7, A7, by omega, ⟨by rw [HNX.out.1, HNX.out.2]; exact HD7.out⟩⟩, rfl⟩
            case measure => rw [HD7.out.x.lenAt, hlen]; omega
      · obtain rfl : k = n1 := by omega
        have HWHX : As (Calls Try.prog 67 #[.pointer (some ⟨b, 0, none⟩)] wr fun e w' => e = .returned (.bool (reader.whole (stNums k s').2)) ∧ w' = wr) := ⟨reader.whole_any b gk _ wr hRk⟩
        obtain ⟨q0, q1⟩ := HD.out.res.cells
        have f0 := HD.out.res.free 0
        have f1 := HD.out.res.free 1
        cases hwh : reader.whole (stNums k s').2 with
        | false =>
          have HZ : As (dRep xs = (0, [], 3)) := ⟨by rw [HE.out, if_neg]; intro h9; rw [h9] at hwh; simp [reader.whole] at hwh⟩
          rw [hwh] at HWHX
          clear hRk hgk hleft hlk hwh
          go_wp2_with (go_at_call 67; refine HWHX.out.mono ?_; rintro e w6 ⟨rfl, rfl⟩; clear HWHX)
          have hz := rep_set HD.out.kp HD.out.res 0 (.slice none 0 0)
          (try simp only [Exit.inBlock, Exit.then])
          refine bodyPost_ret (res_rep rfl rfl hz.1) rfl ?_
          exact drep_none HZ.out hz.2.1
        | true =>
          have HZ : As (dRep xs = ((n0 : Int), (stNums k s').1, 0)) := ⟨by rw [HE.out, if_pos]; simpa [reader.whole] using hwh⟩
          rw [hwh] at HWHX
          have HLK := As.mk hlk
          have HOWN : As (wr.ownsRow 0 3 1 (.slice AX k cX) k (iv .i64 (stNums k s').1)) := ⟨by have h8 := HD.out.own; rwa [hlk] at h8⟩
          clear hRk hgk hleft hlk hwh
          go_wp2_with (go_at_call 67; refine HWHX.out.mono ?_; rintro e w6 ⟨rfl, rfl⟩; clear HWHX)
          have hz := rep_set HD.out.kp HD.out.res n0 (.slice AX k cX)
          obtain ⟨A9, c9, h9, hc9, _, r9, n9⟩ := own_rd HOWN.out
          cases h9
          (try simp only [Exit.inBlock, Exit.then])
          refine bodyPost_ret (res_rep rfl rfl hz.1) rfl ?_
          refine ⟨_, _, _, AX, k, cX, HZ.out, rfl, HLK.out, ?_, by have := HLK.out; omega, n9, hz.2.1⟩
          exact hz.2.2.rd r9 (fun a ha hm => by have h9 := HD.out.lo a.block (by rw [ha]; rfl); have h8 := HD.out.ord; simp at hm; omega)
  · have hs0 : s' = none := by rw [← hs', sRep, if_neg hok]
    clear hs'
    by_cases ha : 100 < n0
    · clear hok
      go_enter Try.func34, Try.ntmps34
      go_wp2_with (first
        | (go_at_call 62; refine (HNEW.out _ ((Kp.refl [] w).alloc _)).mono ?_; rintro e w2 ⟨b, g, rfl, R2, hb2, hg2, K2⟩; have r2 : RepAt w2 w.heap.size 0 (.slice none 0 0) := K2.blk (heap_alloc_new w _) (by simp); have HK2 : As (Kp [] w w2) := ⟨((Kp.refl [] w).alloc _).trans K2 (by simp)⟩; rw [World.size_alloc] at hb2 hg2; have HBS := As.mk hb2; have HGS := As.mk hg2; have HBL := As.mk R2.lt; have HQ2 := As.mk r2; have HNU := As.mk (rep_nums R2 (fun x hx => (hg2 x hx).2) HL0.out H0.out H1.out); clear R2 hb2 hg2 K2 r2 HNEW)
        | (go_at_call 63; refine HNU.out.mono ?_; rintro e w3 ⟨rfl, ⟨g3, R3, G3⟩, d0, d1, k3, s3⟩; have HK3 : As (Kp [] w w3) := ⟨HK2.out.trans k3 (by intro x hx; simp at hx; have := HBS.out; omega)⟩; have HQ3 := As.mk (HQ2.out.kp k3 (by have := HBS.out; simp; omega)); have HG3 : As (∀ y, g3 = some y → w.heap.size < y ∧ y < w3.heap.size) := ⟨fun y hy => by have h9 : g = some y := (by rcases G3 with h | h; rw [← h]; exact hy; rw [h] at hy; cases hy); have h8 := HGS.out y h9; have h7 := k3.size; omega⟩; have HBD := As.mk (reader.bad_any b g3 s2 w3 R3); clear R3 G3 k3 s3 HNU)
        | (go_at_call 64; refine HBD.out.mono ?_; rintro e w4 HP; obtain ⟨rfl, g4, R4, G4, K4⟩ := HP; have d04 := K4.cell d0 (by have := HBL.out; simp; omega); have d14 := K4.cell d1 (by have := HBL.out; simp; omega); have HK4 : As (Kp [] w w4) := ⟨HK3.out.trans K4 (by intro x hx; simp at hx; have := HBS.out; omega)⟩; rw [← hs0] at R4; have HST := As.mk (DR.start (n0 := n0) HK4.out (HQ3.out.kp K4 (by have := HBS.out; simp; omega)) d14 R4 (fun y hy => by have h9 : g3 = some y := (by rcases G4 with h | h; rw [← h]; exact hy; rw [h] at hy; cases hy); have h8 := HG3.out y h9; have h7 := K4.size; omega) (by have := HBS.out; omega) (by have := HK2.out.size; omega) (by have := HBL.out; omega)); clear R4 G4 K4 d0 d1 HBD))
      go_loopw [31] (fun _ wr => ∃ (k cX : Nat) (AX : Option Addr), k ≤ n1 ∧ As (DR w wr (w2.heap.size + 1) b w4.heap.size n0 n1 (.slice AX k cX) (stNums k s').1 (stNums k s').2)) (fun _ wr => n1 - lenAt wr w4.heap.size)
      case atStart => exact ⟨0, 0, none, by omega, ⟨HST.out⟩⟩
      case round =>
        obtain ⟨k, cX, AX, hk, HD⟩ := hrel
        obtain ⟨e0, e1⟩ := HD.out.x.cells
        have dm := HD.out.many
        have hlen := HD.out.x.lenAt
        obtain ⟨gk, hRk, hgk⟩ := HD.out.rdr
        have hlk := reader.stNums_len k s'
        have hleft := reader.stNums_left (k := k) HL'.out
        by_cases hlt : k < n1
        · cases hst : (stNums k s').2 with
          | none =>
            rw [hst] at hRk HD
            have HG : As (Calls Try.prog 65 #[.pointer (some ⟨b, 0, none⟩)] wr fun e w' => e = .returned (.bool false) ∧ w' = wr) := ⟨reader.good_any b gk none wr hRk⟩
            have HWH : As (Calls Try.prog 67 #[.pointer (some ⟨b, 0, none⟩)] wr fun e w' => e = .returned (.bool false) ∧ w' = wr) := ⟨reader.whole_any b gk none wr hRk⟩
            have HZ : As (dRep xs = (0, [], 3)) := ⟨by rw [HE.out, stNums_stay hst (by omega), if_neg (by simp)]⟩
            obtain ⟨q0, q1⟩ := HD.out.res.cells
            have f0 := HD.out.res.free 0
            have f1 := HD.out.res.free 1
            clear hRk hgk hst hleft hlk
            go_wp2_with (first
              | (go_at_call 65; refine HG.out.mono ?_; rintro e w5 ⟨rfl, rfl⟩; clear HG)
              | (go_at_call 67; refine HWH.out.mono ?_; rintro e w6 ⟨rfl, rfl⟩; clear HWH))
            have hz := rep_set HD.out.kp HD.out.res 0 (.slice none 0 0)
            (try simp only [Exit.inBlock, Exit.then])
            refine bodyPost_ret (res_rep rfl rfl hz.1) rfl ?_
            exact drep_none HZ.out hz.2.1
          | some rest =>
            rw [hs0, stNums_none] at hst
            cases hst
        · obtain rfl : k = n1 := by omega
          have HWHX : As (Calls Try.prog 67 #[.pointer (some ⟨b, 0, none⟩)] wr fun e w' => e = .returned (.bool (reader.whole (stNums k s').2)) ∧ w' = wr) := ⟨reader.whole_any b gk _ wr hRk⟩
          obtain ⟨q0, q1⟩ := HD.out.res.cells
          have f0 := HD.out.res.free 0
          have f1 := HD.out.res.free 1
          cases hwh : reader.whole (stNums k s').2 with
          | false =>
            have HZ : As (dRep xs = (0, [], 3)) := ⟨by rw [HE.out, if_neg]; intro h9; rw [h9] at hwh; simp [reader.whole] at hwh⟩
            rw [hwh] at HWHX
            clear hRk hgk hleft hlk hwh
            go_wp2_with (go_at_call 67; refine HWHX.out.mono ?_; rintro e w6 ⟨rfl, rfl⟩; clear HWHX)
            have hz := rep_set HD.out.kp HD.out.res 0 (.slice none 0 0)
            (try simp only [Exit.inBlock, Exit.then])
            refine bodyPost_ret (res_rep rfl rfl hz.1) rfl ?_
            exact drep_none HZ.out hz.2.1
          | true =>
            have HZ : As (dRep xs = ((n0 : Int), (stNums k s').1, 0)) := ⟨by rw [HE.out, if_pos]; simpa [reader.whole] using hwh⟩
            rw [hwh] at HWHX
            have HLK := As.mk hlk
            have HOWN : As (wr.ownsRow 0 3 1 (.slice AX k cX) k (iv .i64 (stNums k s').1)) := ⟨by have h8 := HD.out.own; rwa [hlk] at h8⟩
            clear hRk hgk hleft hlk hwh
            go_wp2_with (go_at_call 67; refine HWHX.out.mono ?_; rintro e w6 ⟨rfl, rfl⟩; clear HWHX)
            have hz := rep_set HD.out.kp HD.out.res n0 (.slice AX k cX)
            obtain ⟨A9, c9, h9, hc9, _, r9, n9⟩ := own_rd HOWN.out
            cases h9
            (try simp only [Exit.inBlock, Exit.then])
            refine bodyPost_ret (res_rep rfl rfl hz.1) rfl ?_
            refine ⟨_, _, _, AX, k, cX, HZ.out, rfl, HLK.out, ?_, by have := HLK.out; omega, n9, hz.2.1⟩
            exact hz.2.2.rd r9 (fun a ha hm => by have h9 := HD.out.lo a.block (by rw [ha]; rfl); have h8 := HD.out.ord; simp at hm; omega)
    · have hb : 8 < n1 := by omega
      clear hok
      go_enter Try.func34, Try.ntmps34
      go_wp2_with (first
        | (go_at_call 62; refine (HNEW.out _ ((Kp.refl [] w).alloc _)).mono ?_; rintro e w2 ⟨b, g, rfl, R2, hb2, hg2, K2⟩; have r2 : RepAt w2 w.heap.size 0 (.slice none 0 0) := K2.blk (heap_alloc_new w _) (by simp); have HK2 : As (Kp [] w w2) := ⟨((Kp.refl [] w).alloc _).trans K2 (by simp)⟩; rw [World.size_alloc] at hb2 hg2; have HBS := As.mk hb2; have HGS := As.mk hg2; have HBL := As.mk R2.lt; have HQ2 := As.mk r2; have HNU := As.mk (rep_nums R2 (fun x hx => (hg2 x hx).2) HL0.out H0.out H1.out); clear R2 hb2 hg2 K2 r2 HNEW)
        | (go_at_call 63; refine HNU.out.mono ?_; rintro e w3 ⟨rfl, ⟨g3, R3, G3⟩, d0, d1, k3, s3⟩; have HK3 : As (Kp [] w w3) := ⟨HK2.out.trans k3 (by intro x hx; simp at hx; have := HBS.out; omega)⟩; have HQ3 := As.mk (HQ2.out.kp k3 (by have := HBS.out; simp; omega)); have HG3 : As (∀ y, g3 = some y → w.heap.size < y ∧ y < w3.heap.size) := ⟨fun y hy => by have h9 : g = some y := (by rcases G3 with h | h; rw [← h]; exact hy; rw [h] at hy; cases hy); have h8 := HGS.out y h9; have h7 := k3.size; omega⟩; have HBD := As.mk (reader.bad_any b g3 s2 w3 R3); clear R3 G3 k3 s3 HNU)
        | (go_at_call 64; refine HBD.out.mono ?_; rintro e w4 HP; obtain ⟨rfl, g4, R4, G4, K4⟩ := HP; have d04 := K4.cell d0 (by have := HBL.out; simp; omega); have d14 := K4.cell d1 (by have := HBL.out; simp; omega); have HK4 : As (Kp [] w w4) := ⟨HK3.out.trans K4 (by intro x hx; simp at hx; have := HBS.out; omega)⟩; rw [← hs0] at R4; have HST := As.mk (DR.start (n0 := n0) HK4.out (HQ3.out.kp K4 (by have := HBS.out; simp; omega)) d14 R4 (fun y hy => by have h9 : g3 = some y := (by rcases G4 with h | h; rw [← h]; exact hy; rw [h] at hy; cases hy); have h8 := HG3.out y h9; have h7 := K4.size; omega) (by have := HBS.out; omega) (by have := HK2.out.size; omega) (by have := HBL.out; omega)); clear R4 G4 K4 d0 d1 HBD))
      go_loopw [31] (fun _ wr => ∃ (k cX : Nat) (AX : Option Addr), k ≤ n1 ∧ As (DR w wr (w2.heap.size + 1) b w4.heap.size n0 n1 (.slice AX k cX) (stNums k s').1 (stNums k s').2)) (fun _ wr => n1 - lenAt wr w4.heap.size)
      case atStart => exact ⟨0, 0, none, by omega, ⟨HST.out⟩⟩
      case round =>
        obtain ⟨k, cX, AX, hk, HD⟩ := hrel
        obtain ⟨e0, e1⟩ := HD.out.x.cells
        have dm := HD.out.many
        have hlen := HD.out.x.lenAt
        obtain ⟨gk, hRk, hgk⟩ := HD.out.rdr
        have hlk := reader.stNums_len k s'
        have hleft := reader.stNums_left (k := k) HL'.out
        by_cases hlt : k < n1
        · cases hst : (stNums k s').2 with
          | none =>
            rw [hst] at hRk HD
            have HG : As (Calls Try.prog 65 #[.pointer (some ⟨b, 0, none⟩)] wr fun e w' => e = .returned (.bool false) ∧ w' = wr) := ⟨reader.good_any b gk none wr hRk⟩
            have HWH : As (Calls Try.prog 67 #[.pointer (some ⟨b, 0, none⟩)] wr fun e w' => e = .returned (.bool false) ∧ w' = wr) := ⟨reader.whole_any b gk none wr hRk⟩
            have HZ : As (dRep xs = (0, [], 3)) := ⟨by rw [HE.out, stNums_stay hst (by omega), if_neg (by simp)]⟩
            obtain ⟨q0, q1⟩ := HD.out.res.cells
            have f0 := HD.out.res.free 0
            have f1 := HD.out.res.free 1
            clear hRk hgk hst hleft hlk
            go_wp2_with (first
              | (go_at_call 65; refine HG.out.mono ?_; rintro e w5 ⟨rfl, rfl⟩; clear HG)
              | (go_at_call 67; refine HWH.out.mono ?_; rintro e w6 ⟨rfl, rfl⟩; clear HWH))
            have hz := rep_set HD.out.kp HD.out.res 0 (.slice none 0 0)
            (try simp only [Exit.inBlock, Exit.then])
            refine bodyPost_ret (res_rep rfl rfl hz.1) rfl ?_
            exact drep_none HZ.out hz.2.1
          | some rest =>
            rw [hs0, stNums_none] at hst
            cases hst
        · obtain rfl : k = n1 := by omega
          have HWHX : As (Calls Try.prog 67 #[.pointer (some ⟨b, 0, none⟩)] wr fun e w' => e = .returned (.bool (reader.whole (stNums k s').2)) ∧ w' = wr) := ⟨reader.whole_any b gk _ wr hRk⟩
          obtain ⟨q0, q1⟩ := HD.out.res.cells
          have f0 := HD.out.res.free 0
          have f1 := HD.out.res.free 1
          cases hwh : reader.whole (stNums k s').2 with
          | false =>
            have HZ : As (dRep xs = (0, [], 3)) := ⟨by rw [HE.out, if_neg]; intro h9; rw [h9] at hwh; simp [reader.whole] at hwh⟩
            rw [hwh] at HWHX
            clear hRk hgk hleft hlk hwh
            go_wp2_with (go_at_call 67; refine HWHX.out.mono ?_; rintro e w6 ⟨rfl, rfl⟩; clear HWHX)
            have hz := rep_set HD.out.kp HD.out.res 0 (.slice none 0 0)
            (try simp only [Exit.inBlock, Exit.then])
            refine bodyPost_ret (res_rep rfl rfl hz.1) rfl ?_
            exact drep_none HZ.out hz.2.1
          | true =>
            have HZ : As (dRep xs = ((n0 : Int), (stNums k s').1, 0)) := ⟨by rw [HE.out, if_pos]; simpa [reader.whole] using hwh⟩
            rw [hwh] at HWHX
            have HLK := As.mk hlk
            have HOWN : As (wr.ownsRow 0 3 1 (.slice AX k cX) k (iv .i64 (stNums k s').1)) := ⟨by have h8 := HD.out.own; rwa [hlk] at h8⟩
            clear hRk hgk hleft hlk hwh
            go_wp2_with (go_at_call 67; refine HWHX.out.mono ?_; rintro e w6 ⟨rfl, rfl⟩; clear HWHX)
            have hz := rep_set HD.out.kp HD.out.res n0 (.slice AX k cX)
            obtain ⟨A9, c9, h9, hc9, _, r9, n9⟩ := own_rd HOWN.out
            cases h9
            (try simp only [Exit.inBlock, Exit.then])
            refine bodyPost_ret (res_rep rfl rfl hz.1) rfl ?_
            refine ⟨_, _, _, AX, k, cX, HZ.out, rfl, HLK.out, ?_, by have := HLK.out; omega, n9, hz.2.1⟩
            exact hz.2.2.rd r9 (fun a ha hm => by have h9 := HD.out.lo a.block (by rw [ha]; rfl); have h8 := HD.out.ord; simp at hm; omega)
end Go.Proofs.Ytlknlpiiogmfbaa.opk
