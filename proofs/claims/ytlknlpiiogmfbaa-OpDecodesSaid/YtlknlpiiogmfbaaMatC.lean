/- op.ReadMatches. -/
import Derived.Test.YtlknlpiiogmfbaaMatM8
import Derived.Test.YtlknlpiiogmfbaaRepD
import Derived.Deep.RegionLaw
import Derived.Deep.CutRange
import Derived.Deep.CutBlock
namespace Go.Proofs.Ytlknlpiiogmfbaa.opk
open Go.RowKit H O haystacklaw13 reader

set_option maxHeartbeats 8000000 in
set_option maxRecDepth 100000 in
theorem readMs_any (A : Option Addr) (n c : Nat) (xs : List Int) (w : World) (hn : xs.length = n) (hr : Rd w A (iv .u8 xs)) (hnil : A = none → c = 0) (hw : Wf xs) (hm : n ≤ 50000) :
    Calls Try.prog 37 #[.slice A n c] w (DMs xs w) := by
  have HNEW := As.mk (reader.new_any A n c xs w hn hr hnil (by omega) hw)
  obtain ⟨N, s1, h0⟩ : ∃ a b, stNum (some xs) = (a, b) := ⟨_, _, rfl⟩
  have HE := As.mk (dMs_eq h0)
  have hl1 : (left s1).length ≤ 50000 := by
    have q1 := reader.left_le (s := some xs) (m := 50000) (by simp [left]; omega)
    rwa [h0] at q1
  have HC : As (∀ j r, (mIter j s1).2 = some r → j + r.length ≤ 50000) := ⟨fun j r h => by have := mIter_count h; omega⟩
  have H0 := As.mk h0
  have HL0 : As ((left (some xs)).length ≤ 70368744177664) := ⟨by simp [left]; omega⟩
  clear h0 hl1 hn hr hnil hw
  go_enter Try.func37, Try.ntmps37
  go_wp2_with (first
    | (go_at_call 62; refine HNEW.out.mono ?_; rintro e w2 ⟨b, g, rfl, R2, hb2, hg2, K2⟩; have HS2 := As.mk (MR.start K2 R2 (fun y hy => (hg2 y hy).2) hb2); have HNM := As.mk (take_num HS2.out HL0.out H0.out); clear R2 hb2 hg2 K2 HNEW)
    | (go_at_call 66; refine HNM.out.mono ?_; rintro e w3 ⟨rfl, h3, k3⟩; have HS3 := As.mk h3; clear h3 k3 HNM))
  go_loopw [4] (fun v wr => ∃ (k cX : Nat) (AX : Option Addr), v = .slice AX k cX ∧ k ≤ N ∧ As (MR w wr b w2.heap.size (.slice AX k cX) k (mIter k s1).1 (mIter k s1).2)) (fun v _ => N - match v with | .slice _ m _ => m | _ => 0)
  case atStart => exact ⟨0, 0, none, rfl, by omega, HS3⟩
  case round =>
    obtain ⟨k, cX, AX, rfl, hk, HD⟩ := hrel
    by_cases hlt : k < N
    · cases hst : (mIter k s1).2 with
      | none =>
        have HD' := HD.out
        rw [hst] at HD'
        have HG : As (Calls Try.prog 65 #[.pointer (some ⟨b, 0, none⟩)] wr fun e w' => e = .returned (.bool false) ∧ w' = wr) := ⟨by obtain ⟨g, R, _⟩ := HD'.rdr; exact reader.good_any b g none wr R⟩
        have HWH := As.mk (take_whole HD')
        have HZ : As (dMs xs = ([], 3)) := ⟨by rw [HE.out, mIter_stay hst (by omega), if_neg (by simp)]⟩
        have HKP := As.mk HD'.kp
        clear HD' hst
        go_wp2_with (first
          | (go_at_call 65; refine HG.out.mono ?_; rintro e w5 ⟨rfl, rfl⟩; clear HG)
          | (go_at_call 67; refine HWH.out.mono ?_; rintro e w6 ⟨rfl, rfl⟩; clear HWH))
        go_ret2
        exact dms_none HZ.out HKP.out
      | some rest =>
        have hk9 : k ≤ 50000 := by have := HC.out k rest hst; omega
        have HD' := HD.out
        rw [hst] at HD'
        have HG : As (Calls Try.prog 65 #[.pointer (some ⟨b, 0, none⟩)] wr fun e w' => e = .returned (.bool true) ∧ w' = wr) := ⟨by obtain ⟨g, R, _⟩ := HD'.rdr; exact reader.good_any b g (some rest) wr R⟩
        obtain ⟨p, s4, hp⟩ : ∃ p q, stBytes (some rest) = (p, q) := ⟨_, _, rfl⟩
        obtain ⟨y, s5, hy⟩ : ∃ p q, stNum s4 = (p, q) := ⟨_, _, rfl⟩
        have hrest : (left (some rest)).length ≤ 70368744177664 := by have := HC.out k rest hst; simp [left]; omega
        have hl4 : (left s4).length ≤ 70368744177664 := by have h := stBytes_left (s := some rest) hrest; rwa [hp] at h
        have HBYX : As (∀ wX, Kp [] wr wX → Calls Try.prog 70 #[.pointer (some ⟨b, 0, none⟩)] wX fun e w5 => ∃ A5 n5 c5, e = .returned (.slice A5 n5 c5) ∧ p.length = n5 ∧ MR w w5 b w2.heap.size (.slice AX k cX) k (mIter k s1).1 s4 ∧ (∀ w6, Kp [b] w5 w6 → Rd w6 A5 (iv .u8 p)) ∧ Kp [b] wX w5) := ⟨fun wX kX => take_bytes (HD'.skip kX) hrest hp⟩
        have HNUX : As (∀ wY, MR w wY b w2.heap.size (.slice AX k cX) k (mIter k s1).1 s4 → Calls Try.prog 66 #[.pointer (some ⟨b, 0, none⟩)] wY fun e w5 => e = .returned (.int .i64 (y : Int)) ∧ MR w w5 b w2.heap.size (.slice AX k cX) k (mIter k s1).1 s5 ∧ Kp [b] wY w5) := ⟨fun wY hY => take_num hY hl4 hy⟩
        have HOB : As (∀ z, (Value.slice AX k cX).ownBlock = some z → z < wr.heap.size) := ⟨fun z hz => own_lt HD'.own z hz⟩
        have HNZ : As (w2.heap.size ≤ wr.heap.size) := ⟨HD'.ord.2.2⟩
        have HNX : As ((mIter (k + 1) s1).1 = (mIter k s1).1 ++ [(strOfNums p, (y : Int))] ∧ (mIter (k + 1) s1).2 = if 1 ≤ p.length ∧ p.length ≤ 64 then s5 else none) := ⟨by simp only [mIter, hst, mStep, hp, hy, and_self]⟩
        have hX0 : b < wr.heap.size := by have := HD'.ord; omega
        have HXB := As.mk hX0
        clear HD' hst hrest hl4 hp hy hX0
        go_upto_region 5 with (go_at_call 65; refine HG.out.mono ?_; rintro e w5 ⟨rfl, rfl⟩; clear HG)
        go_cut [7] from 12 to 35 (fun v wx => ∃ X, v = .pointer (some ⟨X, 0, none⟩) ∧ As (MR w wx b w2.heap.size (.slice AX k cX) k (mIter k s1).1 s5 ∧ PlAt wx X (strOfNums p) y ∧ b < X))
        case first =>
          go_region_law (first
            | (go_simp; go_at_call 70; (first | (refine (HBYX.out _ (Kp.refl [] _).drew).mono ?_; rintro e w6 HP; obtain ⟨A6, n6, c6, rfl, hn6, h6, r6, k6⟩ := HP) | (refine (HBYX.out _ ((Kp.refl [] _).drew.alloc _)).mono ?_; rintro e w6 HP; obtain ⟨A6, n6, c6, rfl, hn6, h6, r6, k6⟩ := HP; have HZ6 : As (PlAt w6 w5.heap.size ⟨#[]⟩ 0) := ⟨(PlAt.new w5.drew ⟨#[]⟩ 0).kp k6 (by have := HXB.out; simp; omega)⟩; obtain ⟨z60, z61⟩ := HZ6.out.cells; have f60 := HZ6.out.free 0; have f61 := HZ6.out.free 1)); have HS6 : As (w5.heap.size ≤ w6.heap.size) := ⟨by have := k6.size; simp at this; omega⟩; have HD6 := As.mk h6; have HN6 := As.mk hn6; have HR6 := As.mk r6; have hcv := conv_str (c := c6) hn6 (r6 w6 (Kp.refl _ _)); have hcva := fun o => conv_str (c := c6) hn6 (r6 (w6.alloc o) ((Kp.refl _ _).alloc _)); clear hn6 h6 r6 k6)
            | (go_simp; go_at_call 66; refine (HNUX.out _ (by first | exact HD6.out | exact HD6.out.skip ((Kp.refl [] _).alloc _))).mono ?_; rintro e w7 HP; obtain ⟨rfl, h7, k7⟩ := HP; have HD7 := As.mk h7; have k67 : Kp [b] w6 w7 := (by first | exact k7 | exact ((Kp.refl [b] _).alloc _).trans k7 (fun x hx => .inl hx)); have hcv7 := conv_str (c := c6) HN6.out (HR6.out w7 k67); have hcva7 := fun o => conv_str (c := c6) HN6.out (HR6.out (w7.alloc o) (k67.alloc o)); (first | (have HZ7 := As.mk (HZ6.out.kp k7 (by have := HXB.out; simp; omega)); obtain ⟨z70, z71⟩ := HZ7.out.cells; have f70 := HZ7.out.free 0; have f71 := HZ7.out.free 1) | (have HZ7 : As (PlAt w7 w6.heap.size ⟨#[]⟩ 0) := ⟨(PlAt.new w6 ⟨#[]⟩ 0).kp k7 (by have := HD6.out.ord; simp; omega)⟩; obtain ⟨z70, z71⟩ := HZ7.out.cells; have f70 := HZ7.out.free 0; have f71 := HZ7.out.free 1) | skip); clear h7 k7 k67))
          all_goals go_wp2_with fail
          all_goals go_meet
          all_goals first
            | exact ⟨_, rfl, ⟨HD7.out.made HZ7.out (by have := HS6.out; have := HNZ.out; omega) (fun z hz => by have := HOB.out z hz; have := HS6.out; omega) _ _⟩⟩
            | exact ⟨_, rfl, ⟨HD7.out.laid _ _⟩⟩
        case rest =>
          obtain ⟨X, rfl, HQ⟩ := hcut
          obtain ⟨e0, e1⟩ := HQ.out.2.1.cells
          have hXlt : X < wc.heap.size := lt_of_block HQ.out.2.1
          by_cases hkey : 1 ≤ p.length ∧ p.length ≤ 64
          · have HI := As.mk (isKey_any (strOfNums p) wc)
            rw [str_size, decide_eq_true hkey] at HI
            have HNX2 := HNX.out.2
            rw [if_pos hkey] at HNX2
            have HNY := As.mk (And.intro HNX.out.1 HNX2)
            clear HNX2 HNX hkey
            go_wp2_with (first
              | (go_at_call 57; refine HI.out.mono ?_; rintro e w8 ⟨rfl, rfl⟩; clear HI)
              | (at_builtin; refine reader.appM rfl (.tmp 32) (.tmp 34) rfl (.slice AX k cX) k (mv (mIter k s1).1) rfl (((Kp.refl [] _).alloc _).own HQ.out.1.own (by simp)) w8.heap.size (strOfNums p) y rfl (PlAt.new w8 _ _) (by omega) ?_; intro v9 w9 o9 k9 a9; have h9 := (HQ.out.1.skip ((Kp.refl [] _).alloc _)).put (m := (strOfNums p, (y : Int))) o9 k9 a9; obtain ⟨A9, c9, rfl, _⟩ := own_rd o9; have HD9 := As.mk h9; clear o9 k9 a9 h9))
            go_roundw
            case rel => exact ⟨k + 1, c9, A9, rfl, by omega, ⟨by rw [HNY.out.1, HNY.out.2]; exact HD9.out⟩⟩
            case measure => simp; omega
          · have HI := As.mk (isKey_any (strOfNums p) wc)
            rw [str_size, decide_eq_false hkey] at HI
            have HNX2 := HNX.out.2
            rw [if_neg hkey] at HNX2
            have HNY := As.mk (And.intro HNX.out.1 HNX2)
            have HBD := As.mk (take_bad HQ.out.1)
            clear HNX2 HNX hkey
            go_wp2_with (first
              | (go_at_call 57; refine HI.out.mono ?_; rintro e w8 ⟨rfl, rfl⟩; clear HI)
              | (go_at_call 64; refine HBD.out.mono ?_; rintro e w8' ⟨rfl, h8, k8⟩; have HB8 := As.mk h8; obtain ⟨e80, e81⟩ := (HQ.out.2.1.kp k8 (by have := HQ.out.2.2; simp; omega)).cells; have hX8 : X < w8'.heap.size := (by have := k8.size; omega); clear h8 k8 HBD)
              | (at_builtin; refine reader.appM rfl (.tmp 32) (.tmp 34) rfl (.slice AX k cX) k (mv (mIter k s1).1) rfl (((Kp.refl [] _).alloc _).own HB8.out.own (by simp)) w8'.heap.size (strOfNums p) y rfl (PlAt.new w8' _ _) (by omega) ?_; intro v9 w9 o9 k9 a9; have h9 := (HB8.out.skip ((Kp.refl [] _).alloc _)).put (m := (strOfNums p, (y : Int))) o9 k9 a9; obtain ⟨A9, c9, rfl, _⟩ := own_rd o9; have HD9 := As.mk h9; clear o9 k9 a9 h9))
            go_roundw
            case rel => exact ⟨k + 1, c9, A9, rfl, by omega, ⟨by rw [HNY.out.1, HNY.out.2]; exact HD9.out⟩⟩
            case measure => simp; omega
    · obtain rfl : k = N := by omega
      have HWH := As.mk (take_whole HD.out)
      cases hwh : whole (mIter k s1).2 with
      | false =>
        have HZ : As (dMs xs = ([], 3)) := ⟨by rw [HE.out, if_neg]; intro h9; rw [h9] at hwh; simp [whole] at hwh⟩
        rw [hwh] at HWH
        clear hwh
        go_wp2_with (go_at_call 67; refine HWH.out.mono ?_; rintro e w6 ⟨rfl, rfl⟩; clear HWH)
        go_ret2
        exact dms_none HZ.out HD.out.kp
      | true =>
        have HZ : As (dMs xs = ((mIter k s1).1, 0)) := ⟨by rw [HE.out, if_pos]; simpa [whole] using hwh⟩
        rw [hwh] at HWH
        clear hwh
        go_wp2_with (go_at_call 67; refine HWH.out.mono ?_; rintro e w6 ⟨rfl, rfl⟩; clear HWH)
        go_ret2
        obtain ⟨A9, c9, h9, hc9, _, r9, n9⟩ := own_rd HD.out.own
        cases h9
        exact ⟨_, _, AX, k, cX, HZ.out, rfl, mIter_len k s1, r9, hc9, n9, HD.out.kp⟩
end Go.Proofs.Ytlknlpiiogmfbaa.opk
