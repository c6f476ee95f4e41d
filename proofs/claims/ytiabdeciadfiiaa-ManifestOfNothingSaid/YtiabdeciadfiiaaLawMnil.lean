/- The walk of ManifestOfNothing: a nil Manifest has no map. -/
import Derived.Test.YtiabdeciadfiiaaManW
import Derived.Test.YtiabdeciadfiiaaBase
namespace Go.Proofs.Ytiabdeciadfiiaa.haystacklaw21
open Go.RowKit H O opk man

theorem nskip (n : Int) (w : World) : Calls Try.prog 27 #[.pointer none, .int .i64 n] w fun e w' => e = .returned (.tuple #[]) ∧ w' = w := by
  go_enter Try.func27, Try.ntmps27
  go_wp2
  go_end0
  exact ⟨rfl, rfl⟩
theorem nmap (w : World) : Calls Try.prog 14 #[.pointer none] w fun e w' => e = .returned (.agg #[.int .i64 0, .slice none 0 0]) ∧ Kp [] w w' := by
  have HM := As.mk (man.MapAt.new w 0 (.slice none 0 0))
  go_enter Try.func14, Try.ntmps14
  go_wp2
  have hz := man.map_set (w := w) (Nat.le_refl _) ((Kp.refl [] w).alloc _) HM.out 0 (.slice none 0 0)
  (try simp only [Exit.inBlock, Exit.then])
  first
    | (refine bodyPost_ret (man.res_map1 rfl rfl hz.1) rfl ?_; exact ⟨rfl, hz.2.1⟩)
    | (refine bodyPost_ret (man.res_map1 rfl rfl HM.out) rfl ?_; exact ⟨rfl, (Kp.refl [] w).alloc _⟩)
theorem napply (n : Int) (A : Option Addr) (m c : Nat) (w : World) : Calls Try.prog 12 #[.pointer none, .int .i64 n, .slice A m c] w fun e w' => e = .returned (.slice none 0 0) ∧ w' = w := by
  go_enter Try.func12, Try.ntmps12
  go_wp2
  go_ret
  exact ⟨rfl, rfl⟩
theorem napplied (w : World) : Calls Try.prog 16 #[.pointer none] w fun e w' => e = .returned (.int .i64 0) ∧ w' = w := by
  go_enter Try.func16, Try.ntmps16
  go_wp2
  go_ret
  exact ⟨rfl, rfl⟩
theorem nsnap (w : World) : Calls Try.prog 31 #[.pointer none] w fun e w' => e = .returned (.slice none 0 0) ∧ w' = w := by
  go_enter Try.func31, Try.ntmps31
  go_wp2
  go_ret
  exact ⟨rfl, rfl⟩
theorem ninst (n : Int) (A : Option Addr) (m c : Nat) (w : World) : Calls Try.prog 29 #[.pointer none, .int .i64 n, .slice A m c] w fun e w' => e = .returned (.int .i64 1) ∧ w' = w := by
  go_enter Try.func29, Try.ntmps29
  go_wp2
  go_ret
  exact ⟨rfl, rfl⟩

set_option maxHeartbeats 8000000 in
set_option maxRecDepth 100000 in
theorem mnil_row (w : World) (v : Int) (_hv : (Lit.int .i64 v).wf = true) (A : Option Addr) (n c : Nat) (xs : List Int) (_hl : xs.length = n) (_hr : Rd w A (iv .u8 xs)) (_hc : n ≤ c) (_hm : c ≤ 9223372036854775807) (_hn : A = none → c = 0)
    (_hw : ∀ x ∈ xs, (Lit.int .u8 x).wf = true) (_hz : n * 1 ≤ 140737488351232) :
    Calls Try.prog 6 #[.int .i64 v, .slice A n c] w fun e w' => e = .returned (.bool true) ∧ Below w.heap.size w w' := by
  clear _hv _hl _hr _hc _hm _hn _hw _hz
  by_cases h4 : 1000 < n
  · have h4' : (1000 : Int) < (n : Int) := by omega
    go_enter Try.func6, Try.ntmps6
    go_wp2
    go_ret
    exact ⟨rfl, Below.refl _ _⟩
  · have h4' : ¬ (1000 : Int) < (n : Int) := by omega
    go_enter Try.func6, Try.ntmps6
    go_wp2_with (first
      | (go_at_call 27; refine (nskip _ _).mono ?_; rintro e w1 ⟨rfl, rfl⟩)
      | (go_at_call 14; refine (nmap _).mono ?_; rintro e w2 ⟨rfl, k2⟩; have HK2 := As.mk k2; obtain ⟨c0, c1⟩ := (man.MapAt.new w2 0 (.slice none 0 0)).cells; clear k2))
    go_region_held3 (fun w' => w'.cell? ⟨w2.heap.size, 0, none⟩ = some (.int .i64 0) ∧ w'.cell? ⟨w2.heap.size, 1, none⟩ = some (.slice none 0 0)) (first | exact ⟨c0, c1⟩ | exact ⟨k9c.cell c0 (by simp), k9c.cell c1 (by simp)⟩ | go_keep) (first
      | (go_at_call 12; refine (napply _ _ _ _ _).mono ?_; rintro e w4 ⟨rfl, rfl⟩)
      | (go_at_call 16; refine (napplied _).mono ?_; rintro e w4 ⟨rfl, rfl⟩)
      | (go_at_call 31; refine (nsnap _).mono ?_; rintro e w4 ⟨rfl, rfl⟩)
      | (go_at_call 29; refine (ninst _ _ _ _ _).mono ?_; rintro e w4 ⟨rfl, rfl⟩)
      | (go_at_call 8; refine (known_any _).mono ?_; rintro e w9 ⟨rfl, k9⟩; have k9c : Kp [] (w2.alloc (.cells #[.int .i64 0, .slice none 0 0] 36)) w9 := (by first | exact k9 | exact (Kp.refl [] _).drew.trans k9 (by simp) | exact ((Kp.refl [] _).drewN _).trans k9 (by simp)); have HK9 := As.mk ((HK2.out.alloc (.cells #[.int .i64 0, .slice none 0 0] 36)).trans k9c (by simp))))
    all_goals go_wp2
    all_goals go_ret
    all_goals exact ⟨rfl, HK9.out.below⟩
end Go.Proofs.Ytiabdeciadfiiaa.haystacklaw21
