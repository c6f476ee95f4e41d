/- octet.Reader: what it holds (Rdr), and its methods. -/
import Derived.Test.YtlknlpiiogmfbaaApp
import Derived.Test.YtlknlpiiogmfbaaRdrA
import Derived.Test.YtlknlpiiogmfbaaClone
namespace Go.Proofs.Ytlknlpiiogmfbaa.reader
open Go.RowKit H O

set_option maxHeartbeats 1000000 in
theorem new_any (A : Option Addr) (n c : Nat) (xs : List Int) (w : World) (hn : xs.length = n) (h0 : Rd w A (iv .u8 xs)) (hnil : A = none → c = 0) (hb : n ≤ 70368744177664) (hw : Wf xs) :
    Calls Try.prog 62 #[.slice A n c] w (NewRdr xs w) := by
  subst hn
  have HC := As.mk (clone.clone_any A xs.length c xs w rfl h0 hnil (by omega))
  have HW := As.mk hw
  clear h0 hnil hw
  go_enter Try.func62, Try.ntmps62
  go_wp2_with (go_at_call 52; refine HC.out.mono ?_; rintro e w1 ⟨v, rfl, ho, hk⟩; obtain ⟨A1, c1, rfl, hl1, hm1, hr1, hn1⟩ := own_rd ho.1; have HO := As.mk ho; have HK := As.mk hk; have HR := As.mk hr1; have HN := As.mk hn1; have HL := As.mk hl1; have HM := As.mk hm1; clear ho hk hr1 hn1 hl1 hm1)
  go_ret
  refine ⟨w1.heap.size, A1.map Addr.block, rfl, ⟨A1, c1, heap_alloc_new w1 _, rfl, ((Kp.refl [] w1).alloc _).rd_new HR.out (by simp), HL.out, HM.out, HN.out, ?_, HW.out⟩, HK.out.size, ?_, HK.out.alloc _⟩
  · intro h
    have := own_lt HO.out.1 w1.heap.size (by rw [ownBlock_slice]; exact h)
    omega
  · intro x hx
    have hx' : (Value.slice A1 xs.length c1).ownBlock = some x := by rw [ownBlock_slice]; exact hx
    have := own_lt HO.out.1 x hx'
    exact ⟨HO.out.2 x hx', by rw [World.size_alloc]; omega⟩

theorem bad_any (b : Nat) (g : Option Nat) (s : Option (List Int)) (w : World) (hR : Rdr w b g s) :
    Calls Try.prog 64 #[.pointer (some ⟨b, 0, none⟩)] w (RdrPost b g (.tuple #[]) none w) := by
  obtain ⟨A, c, hb, rfl, hr, hl, hm, hn, hne, hw⟩ := hR
  have c0 := blk_cell hb 0 rfl
  have c1 := blk_cell hb 1 rfl
  have f0 := blk_free hb 0
  have f1 := blk_free hb 1
  have HB := As.mk hb
  clear hb hr hl hm hn hne hw
  go_enter Try.func64, Try.ntmps64
  go_wp2
  go_end0
  refine ⟨rfl, none, ⟨none, 0, ?_, rfl, Rd.nil _ _, Nat.le_refl _, by omega, fun _ => rfl, by simp, Wf.nil⟩, .inr rfl, ?_⟩
  · have h1 := heap_setCell_same w b 0 _ _ (.slice none 0 0) HB.out
    exact heap_setCell_same _ b 1 _ _ (.bool true) h1
  · exact ((Kp.refl [b] w).setCell (.inl (by simp)) _).setCell (.inl (by simp)) _


theorem dec_step {xs : List Int} {k u : Nat} (hk : k < xs.length) : decF k u (xs.drop k) =
    if 9 ≤ k ∨ (0 < k ∧ xs[k] = 0) then none
    else if xs[k] < 128 then (if 4611686018427387904 < u + xs[k].toNat * 128 ^ k then none else some (u + xs[k].toNat * 128 ^ k, xs.drop (k + 1)))
    else decF (k + 1) (u + (xs[k].toNat - 128) * 128 ^ k) (xs.drop (k + 1)) := by
  rw [List.drop_eq_getElem_cons hk, decF]

set_option maxHeartbeats 4000000 in
set_option maxRecDepth 100000 in
theorem num_any (b : Nat) (g : Option Nat) (s : Option (List Int)) (w : World) (hR : Rdr w b g s) (hb : (left s).length ≤ 70368744177664) :
    Calls Try.prog 66 #[.pointer (some ⟨b, 0, none⟩)] w (RdrPost b g (.int .i64 ((stNum s).1 : Int)) (stNum s).2 w) := by
  have HBAD := As.mk (bad_any b g s w hR)
  have HRR := As.mk hR
  obtain ⟨A, c, hb0, rfl, hr, hl, hm, hn, hne, hw⟩ := hR
  obtain ⟨xs, hxs⟩ : ∃ xs, xs = left s := ⟨_, rfl⟩
  rw [← hxs] at hb0 hr hl hw hb
  have c0 := blk_cell hb0 0 rfl
  have f0 := blk_free hb0 0
  have HB := As.mk hb0
  have HR := As.mk hr
  have HW := As.mk hw
  have HX := As.mk hxs
  clear hb0 hr hn hne hw hxs
  go_enter Try.func66, Try.ntmps66
  go_wp2
  go_loop [3, 13] (fun u i => ∃ k u0 : Nat, i = .int .i64 (k : Int) ∧ u = .int .u64 (u0 : Int) ∧ k ≤ 9 ∧ k ≤ xs.length ∧ As (u0 < 128 ^ k) ∧ As (decF 0 0 xs = decF k u0 (xs.drop k))) (fun _ i => xs.length - (intOf i).toNat)
  case atStart => exact ⟨0, 0, rfl, rfl, by omega, by omega, ⟨by decide⟩, ⟨rfl⟩⟩
  case round =>
    obtain ⟨k, u0, rfl, rfl, hk9, hk, HU, HD⟩ := hrel
    by_cases hlt : k < xs.length
    · obtain ⟨a, rfl, d0⟩ := HR.out.int k hlt
      have HS := As.mk (dec_step (u := u0) hlt)
      have hc := HW.out xs[k] (by simp)
      obtain ⟨y, hy⟩ : ∃ y, y = xs[k] := ⟨_, rfl⟩
      rw [← hy] at d0 hc
      have HY := As.mk hy
      clear hy
      by_cases h9 : 9 ≤ k
      · have HF : As (decF 0 0 xs = none) := ⟨by rw [HD.out, HS.out, if_pos (.inl h9)]⟩
        have g1 : decide (9 ≤ (k : Int)) = true := by simp; omega
        go_wp2_with (go_at_call 64; refine HBAD.out.mono ?_; rintro e w1 HP; obtain rfl := HP.1; have HPA := As.mk HP; clear HP)
        go_ret
        exact num_fail HX.out HF.out HPA.out
      · have g1 : decide (9 ≤ (k : Int)) = false := by simp; omega
        by_cases h0 : 0 < k ∧ y = 0
        · obtain ⟨h0k, rfl⟩ := h0
          have HF : As (decF 0 0 xs = none) := ⟨by rw [HD.out, HS.out, if_pos (.inr ⟨h0k, HY.out.symm⟩)]⟩
          have g2 : decide (0 < (k : Int)) = true := by simp; omega
          go_wp2_with (go_at_call 64; refine HBAD.out.mono ?_; rintro e w1 HP; obtain rfl := HP.1; have HPA := As.mk HP; clear HP)
          go_ret
          exact num_fail HX.out HF.out HPA.out
        · have HN0 : As (¬ (9 ≤ k ∨ (0 < k ∧ xs[k] = 0))) := ⟨by rw [← HY.out]; omega⟩
          have hcase : ¬ 0 < k ∨ (0 < k ∧ ¬ y = 0) := by omega
          clear h0
          obtain g2 | ⟨g2, g3⟩ := hcase
          all_goals
            obtain ⟨u1, hu1⟩ : ∃ u1 : Nat, u1 = u0 + y.toNat % 128 * 128 ^ k := ⟨_, rfl⟩
            have hbit := num_bits u0 k y hc.1 hc.2 (by omega) HU.out
            rw [← hu1] at hbit
            have HU1 := As.mk hu1
            clear hu1
            by_cases h128 : y < 128
            · have e1 : y.toNat % 128 = y.toNat := by omega
              have HE : As (u0 + xs[k].toNat * 128 ^ k = u1) := ⟨by rw [HU1.out, ← HY.out, e1]⟩
              have HL : As (xs[k] < 128) := ⟨by rw [← HY.out]; exact h128⟩
              clear e1
              by_cases hbig : 4611686018427387904 < u1
              · have HF : As (decF 0 0 xs = none) := ⟨by rw [HD.out, HS.out, if_neg HN0.out, if_pos HL.out, HE.out, if_pos hbig]⟩
                go_wp2_with (go_at_call 64; refine HBAD.out.mono ?_; rintro e w1 HP; obtain rfl := HP.1; have HPA := As.mk HP; clear HP)
                go_ret
                exact num_fail HX.out HF.out HPA.out
              · have HF : As (decF 0 0 xs = some (u1, xs.drop (k + 1))) := ⟨by rw [HD.out, HS.out, if_neg HN0.out, if_pos HL.out, HE.out, if_neg hbig]⟩
                go_wp2_with fail
                all_goals go_ret
                · exact num_ok HB.out HRR.out HX.out HF.out (a' := a) (by rw [List.drop_of_length_le (show xs.length ≤ k + 1 by omega)]; exact Rd.nil _ _) rfl (by omega) (by omega)
                · exact num_ok HB.out HRR.out HX.out HF.out (a' := a.add (k + 1)) (by rw [← iv_drop]; exact HR.out.drop _) (add_block _ _) (by omega) (by omega)
            · have HF : As (decF 0 0 xs = decF (k + 1) u1 (xs.drop (k + 1))) := by
                constructor
                have e1 : y.toNat % 128 = y.toNat - 128 := by omega
                rw [HD.out, HS.out, if_neg HN0.out, if_neg (by rw [← HY.out]; exact h128), HU1.out, ← HY.out, e1]
              have HB1 : As (u1 < 128 ^ (k + 1)) := by
                constructor
                rw [HU1.out, Nat.pow_succ]
                have h1 : y.toNat % 128 * 128 ^ k ≤ 127 * 128 ^ k := Nat.mul_le_mul_right _ (by omega)
                have h2 := HU.out
                omega
              go_wp2_with fail
              go_round
              case rel => exact ⟨k + 1, u1, by go_num, rfl, by omega, by omega, HB1, HF⟩
              case measure => simp [intOf]; omega
    · have HF : As (decF 0 0 xs = none) := ⟨by rw [HD.out, List.drop_of_length_le (by omega)]; rfl⟩
      go_wp2_with (go_at_call 64; refine HBAD.out.mono ?_; rintro e w1 HP; obtain rfl := HP.1; have HPA := As.mk HP; clear HP)
      go_ret
      exact num_fail HX.out HF.out HPA.out


theorem good_any (b : Nat) (g : Option Nat) (s : Option (List Int)) (w : World) (hR : Rdr w b g s) :
    Calls Try.prog 65 #[.pointer (some ⟨b, 0, none⟩)] w fun e w' => e = .returned (.bool s.isSome) ∧ w' = w := by
  obtain ⟨A, c, hb, rfl, _⟩ := hR
  have c1 := blk_cell hb 1 rfl
  clear hb
  cases s
  · go_enter Try.func65, Try.ntmps65
    go_wp2
    go_ret
    exact ⟨rfl, rfl⟩
  · go_enter Try.func65, Try.ntmps65
    go_wp2
    go_ret
    exact ⟨rfl, rfl⟩
theorem whole_any (b : Nat) (g : Option Nat) (s : Option (List Int)) (w : World) (hR : Rdr w b g s) :
    Calls Try.prog 67 #[.pointer (some ⟨b, 0, none⟩)] w fun e w' => e = .returned (.bool (whole s)) ∧ w' = w := by
  have HG := As.mk (good_any b g s w hR)
  obtain ⟨A, c, hb, rfl, _⟩ := hR
  have c0 := blk_cell hb 0 rfl
  clear hb
  rcases s with _ | ⟨_ | ⟨x, l⟩⟩
  · go_enter Try.func67, Try.ntmps67
    go_wp2_with (go_at_call 65; refine HG.out.mono ?_; rintro e w1 ⟨rfl, rfl⟩)
    go_ret
    exact ⟨rfl, rfl⟩
  · go_enter Try.func67, Try.ntmps67
    go_wp2_with (go_at_call 65; refine HG.out.mono ?_; rintro e w1 ⟨rfl, rfl⟩)
    go_ret
    exact ⟨rfl, rfl⟩
  · have hl : (((left (some (x :: l))).length : Int) == 0) = false := by simp [left]; omega
    go_enter Try.func67, Try.ntmps67
    go_wp2_with (go_at_call 65; refine HG.out.mono ?_; rintro e w1 ⟨rfl, rfl⟩)
    go_ret
    exact ⟨rfl, rfl⟩

end Go.Proofs.Ytlknlpiiogmfbaa.reader
