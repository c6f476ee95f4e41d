/- haystacklaw13.matches -/
import Derived.Test.YtlknlpiiogmfbaaMatM8
import Derived.Test.YtlknlpiiogmfbaaOpC
import Derived.BigQuiet
namespace Go.Proofs.Ytlknlpiiogmfbaa.haystacklaw13
open Go.RowKit H O opk

set_option maxHeartbeats 4000000 in
set_option maxRecDepth 100000 in
theorem matches_any (A0 A1 : Option Addr) (n0 c0 n1 c1 : Nat) (xs ys : List (ByteArray × Int)) (w : World) (l0 : xs.length = n0) (l1 : ys.length = n1) (h0 : Rd w A0 (mv xs)) (h1 : Rd w A1 (mv ys)) (hm : n0 ≤ 100000) (hm1 : n1 ≤ 100000) :
    Calls Try.prog 39 #[.slice A0 n0 c0, .slice A1 n1 c1] w fun e w' => e = .returned (.bool (decide (xs = ys))) ∧ Kp [] w w' := by
  have H0 := As.mk h0
  have H1 := As.mk h1
  have L0 := As.mk l0
  have L1 := As.mk l1
  clear h0 h1
  by_cases hl : n0 = n1
  · subst hl
    clear l0 l1
    go_enter Try.func39, Try.ntmps39
    go_wp2
    go_loopw [5] (fun i wr => ∃ k : Nat, i = .int .i64 k ∧ k ≤ n0 ∧ As (xs.take k = ys.take k) ∧ As (Kp [] w wr)) (fun i _ => n0 - (intOf i).toNat)
    case atStart => exact ⟨0, rfl, by omega, ⟨rfl⟩, ⟨Kp.refl _ _⟩⟩
    case round =>
      obtain ⟨k, rfl, hk, HT, HK⟩ := hrel
      by_cases hlt : k < n0
      · have hx : k < xs.length := by rw [L0.out]; exact hlt
        have hy : k < ys.length := by rw [L1.out]; exact hlt
        obtain ⟨b0, o0, rfl, d0, d1⟩ := mv_at H0.out k hx
        obtain ⟨b1, o1, rfl, e0, e1⟩ := mv_at H1.out k hy
        have f0 := HK.out.cell d0 (by simp)
        have f1 := HK.out.cell d1 (by simp)
        have g0 := HK.out.cell e0 (by simp)
        have g1 := HK.out.cell e1 (by simp)
        clear d0 d1 e0 e1
        obtain ⟨x, hxe⟩ : ∃ x, xs[k] = x := ⟨_, rfl⟩
        obtain ⟨y, hye⟩ : ∃ y, ys[k] = y := ⟨_, rfl⟩
        obtain ⟨xk, xn⟩ := x
        obtain ⟨yk, yn⟩ := y
        rw [hxe] at f0 f1
        rw [hye] at g0 g1
        have HX := As.mk hxe
        have HY := As.mk hye
        clear hxe hye
        by_cases hk1 : xk = yk
        · subst hk1
          by_cases hn1 : xn = yn
          · subst hn1
            have HNX : As (xs.take (k + 1) = ys.take (k + 1)) := ⟨by rw [take_succ' xs k hx, take_succ' ys k hy, HT.out, HX.out, HY.out]⟩
            clear HX HY hx hy
            go_wp2
            go_quiet (fail)
            go_wp2
            go_roundw
            case rel => exact ⟨k + 1, by go_num, by omega, HNX, ⟨HK.out.drewN _⟩⟩
            case measure => simp [intOf]; omega
          · have HNE : As (xs ≠ ys) := ⟨by intro e; subst e; have h9 := HX.out; rw [HY.out] at h9; simp at h9; exact hn1 h9.symm⟩
            clear HX HY hx hy
            go_wp2
            go_quiet (fail)
            go_wp2
            go_ret
            exact ⟨ret_bool (by symm; rw [decide_eq_false_iff_not]; exact HNE.out), HK.out.drewN _⟩
        · have HNE : As (xs ≠ ys) := ⟨by intro e; subst e; have h9 := HX.out; rw [HY.out] at h9; simp at h9; exact hk1 h9.1.symm⟩
          have hkl : ¬ xk.toList = yk.toList := fun e => hk1 (str_eq e)
          clear HX HY hx hy
          go_wp2
          go_quiet (fail)
          go_wp2
          go_ret
          exact ⟨ret_bool (by symm; rw [decide_eq_false_iff_not]; exact HNE.out), HK.out.drewN _⟩
      · go_wp2
        go_ret
        exact ⟨ret_bool (by
          symm
          rw [decide_eq_true_eq]
          have e := HT.out
          have e0 := L0.out
          have e1 := L1.out
          rwa [List.take_of_length_le (by omega), List.take_of_length_le (by omega)] at e), HK.out⟩
  · have HNE : As (xs ≠ ys) := ⟨by intro e; subst e; omega⟩
    have b1 : ((n0 : Int) != (n1 : Int)) = true := by simp; omega
    clear l0 l1
    go_enter Try.func39, Try.ntmps39
    go_wp2
    go_ret
    exact ⟨ret_bool (by symm; rw [decide_eq_false_iff_not]; exact HNE.out), Kp.refl _ _⟩
end Go.Proofs.Ytlknlpiiogmfbaa.haystacklaw13
