/- haystacklaw24.CoordOfNothing: a nil Coord asks nobody. -/
import Derived.Test.YtdiljpdohmeceaaCo6
import Derived.Deep.QuietTactic
import Derived.BigQuiet
namespace Go.Proofs.Ytdiljpdohmeceaa.co
open Go.RowKit H O opk frame wir

theorem nmay (key : ByteArray) (w : World) : Calls Try.prog 14 #[.pointer none, .string key] w fun e w' => e = .returned (.int .i64 1) ∧ w' = w := by
  go_enter Try.func14, Try.ntmps14
  go_wp2
  go_ret
  exact ⟨rfl, rfl⟩
theorem nput (key : ByteArray) (v : Value) (w : World) : Calls Try.prog 4 #[.pointer none, .string key, v] w fun e w' => e = .returned (.tuple #[.int .i64 0, .int .i64 1]) ∧ w' = w := by
  go_enter Try.func4, Try.ntmps4
  go_wp2_with (go_at_call 14; refine (nmay key _).mono ?_; rintro e w1 ⟨rfl, rfl⟩)
  go_ret2
  exact ⟨rfl, rfl⟩
theorem ndelete (key : ByteArray) (w : World) : Calls Try.prog 5 #[.pointer none, .string key] w fun e w' => e = .returned (.tuple #[.int .i64 0, .int .i64 1]) ∧ w' = w := by
  go_enter Try.func5, Try.ntmps5
  go_wp2_with (go_at_call 14; refine (nmay key _).mono ?_; rintro e w1 ⟨rfl, rfl⟩)
  go_ret2
  exact ⟨rfl, rfl⟩
theorem nget (key : ByteArray) (w : World) : Calls Try.prog 6 #[.pointer none, .string key] w fun e w' => e = .returned (.tuple #[.int .i64 0, .int .i64 1]) ∧ w' = w := by
  go_enter Try.func6, Try.ntmps6
  go_wp2_with (go_at_call 14; refine (nmay key _).mono ?_; rintro e w1 ⟨rfl, rfl⟩)
  go_ret2
  exact ⟨rfl, rfl⟩
theorem nfind (v : Value) (w : World) : Calls Try.prog 7 #[.pointer none, v] w fun e w' => e = .returned (.tuple #[.int .i64 0, .int .i64 1]) ∧ w' = w := by
  go_enter Try.func7, Try.ntmps7
  go_wp2
  go_ret2
  exact ⟨rfl, rfl⟩
set_option maxRecDepth 100000 in
theorem ntick (w : World) : Calls Try.prog 10 #[.pointer none] w fun e w' => e = .returned (.slice none 0 0) ∧ w' = w := by
  go_enter Try.func10, Try.ntmps10
  go_wp2
  go_ret
  exact ⟨rfl, rfl⟩
theorem ndone (w : World) : Calls Try.prog 11 #[.pointer none] w fun e w' => e = .returned (.slice none 0 0) ∧ w' = w := by
  go_enter Try.func11, Try.ntmps11
  go_wp2
  go_ret
  exact ⟨rfl, rfl⟩
theorem nleft (w : World) : Calls Try.prog 12 #[.pointer none] w fun e w' => e = .returned (.int .i64 0) ∧ w' = w := by
  go_enter Try.func12, Try.ntmps12
  go_wp2
  go_ret
  exact ⟨rfl, rfl⟩
set_option maxRecDepth 100000 in
theorem nhear (a b : Int) (A : Option Addr) (n c : Nat) (w : World) : Calls Try.prog 9 #[.pointer none, .agg #[.int .i64 a, .int .i64 b, .slice A n c]] w fun e w' => e = .returned (.slice none 0 0) ∧ Kp [] w w' := by
  have HK : As (Kp [] w (w.alloc (.cells #[.int .i64 a, .int .i64 b, .slice A n c] 24))) := ⟨(Kp.refl [] w).alloc _⟩
  go_enter Try.func9, Try.ntmps9
  go_wp2_with fail
  go_quiet (fail)
  go_wp2_with fail
  go_ret
  exact ⟨rfl, HK.out.drewN _⟩
theorem nnew6 (A : Option Addr) (n c : Nat) (w : World) : Calls Try.prog 8 #[.int .i64 6, .int .i64 1, .int .i64 1, .slice A n c] w fun e w' => e = .returned (.tuple #[.pointer none, .int .i64 1]) ∧ w' = w := by
  go_enter Try.func8, Try.ntmps8
  go_wp2
  go_ret2
  exact ⟨rfl, rfl⟩
theorem nnew8 (w : World) : Calls Try.prog 8 #[.int .i64 8, .int .i64 1, .int .i64 1, .slice none 0 0] w fun e w' => e = .returned (.tuple #[.pointer none, .int .i64 1]) ∧ w' = w := by
  go_enter Try.func8, Try.ntmps8
  go_wp2
  go_ret2
  exact ⟨rfl, rfl⟩

set_option maxHeartbeats 8000000 in
set_option maxRecDepth 100000 in
theorem cnil_law (key : ByteArray) (a b : Int) (A : Option Addr) (n c : Nat) (w : World) (hk : key.size ≤ 140737488351232) (hn : n ≤ 140737488351232) :
    Calls Try.prog 3 #[.string key, .agg #[.int .i64 a, .int .i64 b, .slice A n c]] w fun e w' => e = .returned (.bool true) ∧ Below w.heap.size w w' := by
  obtain ⟨m, hm⟩ : ∃ m, key.size = m := ⟨_, rfl⟩
  have HM := As.mk hm
  rw [hm] at hk
  have HK : As (Kp [] w (w.alloc (.cells #[.int .i64 a, .int .i64 b, .slice A n c] 24))) := ⟨(Kp.refl [] w).alloc _⟩
  have HP := As.mk (fun v w => nput key v w)
  have HD := As.mk (fun w => ndelete key w)
  have HN6 := As.mk nnew6
  have HG := As.mk (fun w => nget key w)
  have i0 : (0 : Int) ≤ (m : Int) := by omega
  have i1 : (0 : Int) ≤ (n : Int) := by omega
  by_cases hbig : 1000 < m + n
  · have i2 : (1000 : Int) < (m : Int) + (n : Int) := by omega
    go_enter Try.func3, Try.ntmps3
    go_wp2
    go_ret
    exact ⟨rfl, HK.out.below⟩
  · have i2 : ¬ (1000 : Int) < (m : Int) + (n : Int) := by omega
    go_enter Try.func3, Try.ntmps3
    go_wp2_with (first
      | (go_at_call 4; refine (HP.out _ _).mono ?_; rintro e w1 ⟨rfl, rfl⟩)
      | (go_at_call 5; refine (HD.out _).mono ?_; rintro e w2 ⟨rfl, rfl⟩)
      | (go_at_call 6; refine (HG.out _).mono ?_; rintro e w3 ⟨rfl, rfl⟩)
      | (go_at_call 7; refine (nfind _ _).mono ?_; rintro e w4 ⟨rfl, rfl⟩)
      | (go_at_call 8; refine (HN6.out _ _ _ _).mono ?_; rintro e w5 ⟨rfl, rfl⟩; clear HN6)
      | (go_at_call 8; refine (nnew8 _).mono ?_; rintro e w6 ⟨rfl, rfl⟩)
      | (go_at_call 9; refine (nhear a b A n c _).mono ?_; rintro e w7 ⟨rfl, k7⟩; have HK7 := As.mk k7; clear k7)
      | (go_at_call 10; refine (ntick _).mono ?_; rintro e w8 ⟨rfl, rfl⟩)
      | (go_at_call 11; refine (ndone _).mono ?_; rintro e w9 ⟨rfl, rfl⟩)
      | (go_at_call 12; refine (nleft _).mono ?_; rintro e w10 ⟨rfl, rfl⟩)
      | (go_at_call 13; refine (known_any _).mono ?_; rintro e w11 ⟨rfl, k11⟩; have HK11 := As.mk k11; clear k11))
    go_ret
    exact ⟨rfl, ((((((Kp.refl [] w).alloc _).alloc _).alloc _).trans HK7.out (by simp)).trans HK11.out (by simp)).below⟩
theorem cnil_row (w : World) (key : ByteArray) (hk : key.size ≤ 140737488351232) (a b : Int) (A : Option Addr) (n c : Nat) (xs : List Int) (_ : (Lit.int .i64 a).wf = true) (_ : (Lit.int .i64 b).wf = true) (_ : xs.length = n) (_ : Rd w A (iv .u8 xs)) (_ : n ≤ c) (_ : c ≤ 9223372036854775807) (_ : A = none → c = 0) (_ : ∀ x ∈ xs, (Lit.int .u8 x).wf = true) (hn : n ≤ 140737488351232) :
    Calls Try.prog 3 #[.string key, .agg #[.int .i64 a, .int .i64 b, .slice A n c]] w fun e w' => e = .returned (.bool true) ∧ Below w.heap.size w w' := cnil_law key a b A n c w hk hn
end Go.Proofs.Ytdiljpdohmeceaa.co
