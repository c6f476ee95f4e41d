/- haystacklaw13.same answers whether two rows of bytes are one. -/
import Derived.Test.YtlknlpiiogmfbaaHeap
import Derived.Test.YtlknlpiiogmfbaaProg
namespace Go.Proofs.Ytlknlpiiogmfbaa.haystacklaw13
open Go.RowKit H

theorem ret_bool {a b : Bool} (h : a = b) : Ending.returned (.bool a) = .returned (.bool b) := by rw [h]

theorem take_eq_step {xs ys : List Int} {k : Nat} (h : xs.take k = ys.take k) (hx : k < xs.length) (hy : k < ys.length) (he : xs[k] = ys[k]) : xs.take (k + 1) = ys.take (k + 1) := by
  rw [List.take_succ_eq_append_getElem hx, List.take_succ_eq_append_getElem hy, h, he]

set_option maxHeartbeats 1000000 in
theorem same_any (A0 A1 : Option Addr) (n0 c0 n1 c1 : Nat) (xs ys : List Int) (w : World) (l0 : xs.length = n0) (l1 : ys.length = n1) (h0 : Rd w A0 (iv .u8 xs)) (h1 : Rd w A1 (iv .u8 ys)) (hm : xs.length ≤ 9223372036854775807) :
    Calls Try.prog 29 #[.slice A0 n0 c0, .slice A1 n1 c1] w fun e w' => e = .returned (.bool (decide (xs = ys))) ∧ ∃ n, w' = w.drewN n := by
  subst l0 l1
  have H0 := As.mk h0
  have H1 := As.mk h1
  clear h0 h1
  by_cases hl : xs.length = ys.length
  · have b1 : ((xs.length : Int) != (ys.length : Int)) = false := by simp [hl]
    have HL := As.mk hl
    clear hl
    go_enter Try.func29, Try.ntmps29
    go_wp2
    go_loopw [5] (fun i wr => ∃ k : Nat, i = .int .i64 k ∧ k ≤ xs.length ∧ As (xs.take k = ys.take k) ∧ ∃ n, wr = w.drewN n) (fun i _ => xs.length - (intOf i).toNat)
    case atStart => exact ⟨0, rfl, by omega, ⟨rfl⟩, 0, rfl⟩
    case round =>
      obtain ⟨k, rfl, hk, HT, n, rfl⟩ := hrel
      by_cases hlt : k < xs.length
      · have hlt2 : k < ys.length := by have := HL.out; omega
        obtain ⟨a0, rfl, d0⟩ := H0.out.int k hlt
        obtain ⟨a1, rfl, d1⟩ := H1.out.int k hlt2
        by_cases he : xs[k] = ys[k]
        · have e1 : (xs[k] != ys[k]) = false := by simp [he]
          have HE := As.mk he
          clear he
          go_wp2
          go_quiet (fail)
          go_wp2
          go_roundw
          case rel => exact ⟨k + 1, by go_num, by omega, ⟨take_eq_step HT.out hlt hlt2 HE.out⟩, _, rfl⟩
          case measure => simp [intOf]; omega
        · have e1 : (xs[k] != ys[k]) = true := by simp [he]
          have HE := As.mk he
          clear he
          go_wp2
          go_quiet (fail)
          go_wp2
          go_ret
          exact ⟨ret_bool (by symm; rw [decide_eq_false_iff_not]; intro e; subst e; exact HE.out rfl), by first | exact ⟨_, rfl⟩ | exact ⟨_, World.drewN_drewN ..⟩⟩
      · go_wp2
        go_ret
        exact ⟨ret_bool (by
          symm
          rw [decide_eq_true_eq]
          have e := HT.out
          have := HL.out
          rwa [List.take_of_length_le (by omega), List.take_of_length_le (by omega)] at e), _, rfl⟩
  · have b1 : ((xs.length : Int) != (ys.length : Int)) = true := by simp; omega
    have HL := As.mk hl
    clear hl
    go_enter Try.func29, Try.ntmps29
    go_wp2
    go_ret
    exact ⟨ret_bool (by symm; rw [decide_eq_false_iff_not]; intro e; subst e; exact HL.out rfl), 0, rfl⟩

end Go.Proofs.Ytlknlpiiogmfbaa.haystacklaw13
