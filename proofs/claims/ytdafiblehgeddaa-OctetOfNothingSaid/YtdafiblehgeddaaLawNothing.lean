/- The walk of OctetOfNothing: a nil Writer lays nothing, a nil Reader has nothing. -/
import Derived.Test.YtdafiblehgeddaaKnown1
import Derived.Test.YtdafiblehgeddaaNil
import Derived.Test.YtdafiblehgeddaaOpen
namespace Go.Proofs.Ytdafiblehgeddaa.haystacklaw1
open Go.RowKit H O

set_option maxHeartbeats 16000000 in
theorem nothing_row (w : World) (v : Int) (_hv : (Lit.int .i64 v).wf = true) (A : Option Addr) (n c : Nat) (xs : List Int) (_hl : xs.length = n) (_hr : Rd w A (iv .u8 xs)) (_hc : n ≤ c) (_hm : c ≤ 9223372036854775807) (_hn : A = none → c = 0)
    (_hw : ∀ x ∈ xs, (Lit.int .u8 x).wf = true) (_hz : n * 1 ≤ 140737488351232) :
    Calls Try.prog 9 #[.int .i64 v, .slice A n c] w fun e w' => e = .returned (.bool true) ∧ Below w.heap.size w w' := by
  clear _hv _hl _hr _hc _hm _hn _hw _hz
  by_cases h4 : 4000 < n
  · have h4' : (4000 : Int) < (n : Int) := by omega
    go_enter Try.func9, Try.ntmps9
    go_wp2
    go_ret
    exact ⟨rfl, Below.refl _ _⟩
  · have h4' : ¬ (4000 : Int) < (n : Int) := by omega
    have b0 := heap_alloc_new (w.alloc (.cells #[.int .i64 v] 3)) (.cells #[.slice A n c] 23)
    rw [show (w.alloc (.cells #[.int .i64 v] 3)).heap.size = w.heap.size + 1 from by simp] at b0
    have HWB := As.mk (nils.wbytes A n c (w.heap.size + 1) _ (blk_cell b0 0 rfl))
    clear b0
    go_enter Try.func9, Try.ntmps9
    go_wp2_with (first
      | (go_at_call 12; refine (nils.wnums _ _ _ _).mono ?_; rintro e w1 ⟨rfl, rfl⟩)
      | (go_at_call 26; refine HWB.out.mono ?_; rintro e w2 ⟨rfl, k2⟩; have HRN := As.mk (nils.rnums w2.heap.size (w2.alloc (.cells #[.pointer none] 58)) (blk_cell (heap_alloc_new w2 (.cells #[.pointer none] 58)) 0 rfl)); have HK2 : As (Kp [] w w2) := ⟨(((Kp.refl [] w).alloc _).alloc _).trans k2 (by simp)⟩; clear k2)
      | (go_at_call 29; refine (nils.wraw _ _ _ _).mono ?_; rintro e w3 ⟨rfl, rfl⟩)
      | (go_at_call 33; refine (nils.bad _).mono ?_; rintro e w4 ⟨rfl, rfl⟩)
      | (go_at_call 34; refine HRN.out.mono ?_; rintro e w5 ⟨rfl, rfl⟩)
      | (go_at_call 13; refine (nils.wout _).mono ?_; rintro e w6 ⟨rfl, rfl⟩)
      | (go_at_call 18; refine (nils.num _).mono ?_; rintro e w6 ⟨rfl, rfl⟩)
      | (go_at_call 30; refine (nils.bytes _).mono ?_; rintro e w6 ⟨rfl, rfl⟩)
      | (go_at_call 32; refine (nils.raw _ _).mono ?_; rintro e w6 ⟨rfl, rfl⟩)
      | (go_at_call 31; refine (nils.left _).mono ?_; rintro e w6 ⟨rfl, rfl⟩)
      | (go_at_call 19; refine (nils.good _).mono ?_; rintro e w6 ⟨rfl, rfl⟩)
      | (go_at_call 20; refine (nils.whole _).mono ?_; rintro e w6 ⟨rfl, rfl⟩)
      | (go_at_call 11; refine (known_any _).mono ?_; rintro e w7 ⟨rfl, hk7⟩; have HK7 : As (Kp [] w w7) := ⟨(HK2.out.alloc _).trans hk7 (by simp)⟩; clear hk7))
    go_ret
    exact ⟨rfl, HK7.out.below⟩

end Go.Proofs.Ytdafiblehgeddaa.haystacklaw1
