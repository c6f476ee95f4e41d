/- haystackref8: One, Scan. -/
import Derived.Test.YtlknlpiiogmfbaaRef8
namespace Go.Proofs.Ytlknlpiiogmfbaa.ref8
open Go.RowKit H O joins frame

set_option maxHeartbeats 4000000 in
theorem one_any (A : Option Addr) (n c : Nat) (xs : List Int) (w : World) (hn : xs.length = n) (hr : Rd w A (iv .u8 xs)) (hc : n ≤ c) (hw : Wf xs) (hm : n ≤ 70368744177664) :
    Calls Try.prog 23 #[.slice A n c] w (FOne xs w) := by
  have HD := dec_any A n c xs w hn hr hc hw hm
  unfold FDec at HD
  obtain ⟨e, he⟩ : ∃ e, (fDec xs).2.2 = e := ⟨_, rfl⟩
  obtain ⟨k, hk⟩ : ∃ k, (fDec xs).2.1 = k := ⟨_, rfl⟩
  rw [he, hk] at HD
  have HD := As.mk HD
  by_cases h0 : e = 0
  · subst h0
    by_cases h1 : k = n
    · subst h1
      have HE : As (fOne xs = ((fDec xs).1, 0)) := ⟨by rw [fOne, if_neg (by rw [hk]; omega), he]⟩
      clear hr hw hn he hk
      go_enter Try.func23, Try.ntmps23
      go_wp2_with (go_at_call 22; refine HD.out.mono ?_; rintro e w1 ⟨v, rfl, o1, k1⟩; have HO := As.mk o1; have HK := As.mk k1; clear o1 k1)
      go_ret2
      refine ⟨v, by rw [HE.out]; rfl, ?_, HK.out⟩
      rw [HE.out]
      exact HO.out
    · have HE : As (fOne xs = ([], 3)) := ⟨by rw [fOne, if_pos ⟨he, by rw [hk]; omega⟩]⟩
      have hkn : ((k : Int) != (n : Int)) = true := by simp; omega
      clear hr hw hn he hk
      go_enter Try.func23, Try.ntmps23
      go_wp2_with (go_at_call 22; refine HD.out.mono ?_; rintro e w1 ⟨v, rfl, o1, k1⟩; have HK := As.mk k1; clear o1 k1)
      go_ret2
      refine ⟨_, by rw [HE.out]; rfl, ?_, HK.out⟩
      rw [HE.out]
      exact Own.nil _ _ _ _
  · have HE : As (fOne xs = ([], e)) := ⟨by rw [fOne, if_neg (by rw [he]; omega), he, fDec_err (by rw [he]; exact h0)]⟩
    have h0b : (e == 0) = false := by simpa using h0
    have h0c : (e != 0) = true := by simpa using h0
    clear hr hw hn he hk
    go_enter Try.func23, Try.ntmps23
    go_wp2_with (go_at_call 22; refine HD.out.mono ?_; rintro e w1 ⟨v, rfl, o1, k1⟩; have HK := As.mk k1; clear o1 k1)
    go_ret2
    refine ⟨_, by rw [HE.out]; rfl, ?_, HK.out⟩
    rw [HE.out]
    exact Own.nil _ _ _ _

set_option maxHeartbeats 8000000 in
set_option maxRecDepth 100000 in
theorem scan_any (A : Option Addr) (n c : Nat) (xs : List Int) (w : World) (hn : xs.length = n) (hr : Rd w A (iv .u8 xs)) (hc : n ≤ c) (hw : Wf xs) (hm : n ≤ 900000) :
    Calls Try.prog 24 #[.slice A n c] w (FScan xs w) := by
  have HR := As.mk hr
  have HW := As.mk hw
  have HL := As.mk hn
  clear hr hw hn
  go_enter Try.func24, Try.ntmps24
  go_wp2
  go_loopw [4, 5] (fun s i wr => ∃ at_ m : Nat, i = .int .i64 (at_ : Int) ∧ at_ ≤ n ∧ m ≤ at_ ∧ As (∃ vs done, At_ xs w at_ m s wr vs done)) (fun _ i _ => n - (intOf i).toNat)
  case atStart => exact ⟨0, 0, rfl, by omega, by omega, ⟨[], [], World.ownsRow_nil w 0 _ 1, ValsS.nil _ _, by simp [Value.ownBlock], Kp.refl _ _, by simp⟩⟩
  case round =>
    obtain ⟨at_, m, rfl, hat, hma, HS⟩ := hrel
    by_cases hlt : at_ < n
    · obtain ⟨vs, done, hs⟩ := HS.out
      clear HS
      obtain ⟨a, rfl, _⟩ := HR.out.lt (by rw [iv_len, HL.out]; omega)
      obtain ⟨a2, hsl2, hrd2⟩ := slice_tail ht8 hz8 a n c at_ (by omega) hc
      obtain ⟨n2, hn2⟩ : ∃ n2, n - at_ = n2 := ⟨_, rfl⟩
      obtain ⟨c2, hc2⟩ : ∃ c2, c - at_ = c2 := ⟨_, rfl⟩
      rw [hn2, hc2] at hsl2
      obtain ⟨ys, hys⟩ : ∃ ys, xs.drop at_ = ys := ⟨_, rfl⟩
      have hyl : ys.length = n2 := by rw [← hys, List.length_drop, HL.out, hn2]
      have hyw : Wf ys := by rw [← hys]; exact HW.out.drop _
      have hyr := hrd2 wr (iv .u8 xs) (by rw [iv_len, HL.out]) (hs.kp.rd_new HR.out (by simp))
      rw [iv_drop, hys] at hyr
      have HD := dec_any (some a2) n2 c2 ys wr hyl hyr (by omega) hyw (by omega)
      unfold FDec at HD
      obtain ⟨er, her⟩ : ∃ e, (fDec ys).2.2 = e := ⟨_, rfl⟩
      obtain ⟨k, hk⟩ : ∃ k, (fDec ys).2.1 = k := ⟨_, rfl⟩
      obtain ⟨P, hP⟩ : ∃ P, (fDec ys).1 = P := ⟨_, rfl⟩
      obtain ⟨N1, hN1⟩ : ∃ N1, P.length = N1 := ⟨_, rfl⟩
      rw [her, hk, hP] at HD
      have HD := As.mk HD
      have HN1 := As.mk hN1
      clear hN1
      have HS := As.mk hs
      by_cases h0 : er = 0
      · subst h0
        have hp := fDec_pos her
        rw [hk, hyl] at hp
        have hyne : ys ≠ [] := by intro h; rw [h] at hyl; simp at hyl; omega
        have HST := As.mk (fScan_step hyne her)
        rw [hk, hP] at HST
        have HYS := As.mk hys
        have hak : at_ + k ≤ n := by omega
        have hk12 := hp.1
        clear hs hrd2 hyl hyw hyr her hk hyne hys hp hc2 hn2 hP
        go_wp2_with (first
          | (go_at_call 22; refine HD.out.mono ?_; rintro e w1 ⟨v1, rfl, o1, k1⟩; have o1' := o1.1; rw [HN1.out] at o1'; obtain ⟨A1, c1, rfl, _⟩ := own_rd o1'; clear o1'; have HO1 := As.mk o1; have HK1 := As.mk k1; have HS1 := As.mk ((HK1.out.own HS.out.own (by simp))); clear o1 k1 HD)
          | (at_builtin; refine appR rfl (.tmp 23) (.tmp 25) rfl u4 m vs rfl (HS1.out.alloc _) (some ⟨w1.heap.size, 0, none⟩) 1 1 [.slice A1 N1 c1] rfl rfl (rd_new w1 [.slice A1 N1 c1] _) (by simp) (own_one HO1.out) (by omega) ?_; intro v2 w2 o2 k2 a2; have HN := As.mk (HS.out.step HYS.out HST.out HK1.out HO1.out o2 k2 a2); clear o2 k2 a2))
        go_roundw
        case rel => exact ⟨at_ + k, m + 1, by go_num, hak, by omega, ⟨_, _, HN.out⟩⟩
        case measure => simp [intOf]; omega
      · have h0b : (er != 0) = true := by simpa using h0
        have HE := As.mk (fScan_end (b := ys) (.inr (by rw [her]; exact h0)))
        have HYS := As.mk hys
        clear hs hrd2 hyl hyw hyr her hk hys hc2 hn2 hP
        go_wp2_with (go_at_call 22; refine HD.out.mono ?_; rintro e w1 ⟨v1, rfl, _, k1⟩; have HK1 := As.mk k1; clear k1 HD)
        go_ret2
        have h9 := HS.out.done (by rw [HYS.out]; exact HE.out)
        unfold FScan at h9 ⊢
        obtain ⟨A9, c9, he9, r9, h9, n9, k9⟩ := h9
        exact ⟨A9, c9, he9, r9.kp HK1.out (by simp), h9, n9, k9.trans HK1.out (by simp)⟩
    · obtain rfl : at_ = n := by omega
      obtain ⟨vs, done, hs⟩ := HS.out
      have HF := As.mk (hs.done (fScan_end (.inl (List.drop_of_length_le (by rw [HL.out]; exact Nat.le_refl _)))))
      clear HS hs
      go_wp2
      go_ret2
      exact HF.out
end Go.Proofs.Ytlknlpiiogmfbaa.ref8
