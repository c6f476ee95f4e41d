/- haystacklaw22.known: true. -/
import Derived.Test.YtiabdeciadfiiaaWireD
namespace Go.Proofs.Ytiabdeciadfiiaa.wir
open Go.RowKit H O opk frame

theorem pay_known : (pay 113 [2, 0, 0] []).length = 5 := by
  rw [pay, nums_cons, nums_cons, nums_cons, nums_nil, num_small (by decide) (by decide), num_small (by decide) (by decide), row]
  rw [show (([] : List Int).length : Int) = 0 from rfl, num_small (by decide) (by decide)]
  rfl
theorem rq_known : rqOk 2 0 0 = true := by decide
set_option maxHeartbeats 8000000 in
set_option maxRecDepth 100000 in
theorem known_any (w : World) : Calls Try.prog 35 #[] w fun e w' => e = .returned (.bool true) ∧ Kp [] w w' := by
  have kc := fun (w : World) (C : Array Value) (n c : Nat) => Lib.run_convert_bytes_const (P := Try.prog) w 26 5 C n c Try.underlying26 Try.underlying5
  have H1 : As (Calls Try.prog 34 #[.agg #[.int .i64 2, .int .i64 0, .int .i64 0, .slice none 0 0]] w fun e w' => ∃ A c, e = .returned (.tuple #[.slice A 17 c, .int .i64 0]) ∧ Kp [] w w') := ⟨by
    refine (encode_any 2 0 0 none 0 0 [] w rfl (Rd.nil _ _) (by omega) (fun _ => rfl) Wf.nil (by omega)).mono ?_
    rintro e w' (⟨h, _⟩ | ⟨_, A, c, rfl, k, _⟩)
    · rw [rq_known] at h; cases h
    · rw [pay_known]
      exact ⟨A, c, rfl, k⟩⟩
  have H2 : As (∀ wX, Calls Try.prog 63 #[.int .i64 3, .slice (some ⟨wX.heap.size, 0, none⟩) 1 1] (wX.alloc (.cells (iv .u8 [120]).toArray 5 (1, 2))) fun e w' => ∃ A c, e = .returned (.slice A 3 c) ∧ Rd w' A (iv .u8 [103, 3, 120]) ∧ (A = none → c = 0) ∧ Kp [] wX w') := ⟨fun wX => by
    refine (wrap_any 3 (some ⟨wX.heap.size, 0, none⟩) 1 1 [120] _ rfl (rds_mark (S := []) wX (iv .u8 [120]) 5 (1, 2) (by simp)).rd (by simp) (by omega)).mono ?_
    rintro e w' ⟨v, rfl, o, k⟩
    rw [num3] at o
    obtain ⟨A, c, rfl, _, _, r, n⟩ := own_rd o.1
    exact ⟨A, c, rfl, r, n, ((Kp.refl [] wX).alloc _).trans k (by simp)⟩⟩
  have H3 : As (∀ wX A c, Rd wX A (iv .u8 [103, 3, 120]) → (A = none → c = 0) → Calls Try.prog 62 #[.slice A 3 c] wX fun e w' => ∃ A2 c2, e = .returned (.tuple #[.int .i64 3, .slice A2 1 c2, .int .i64 0]) ∧ Rd w' A2 (iv .u8 [120]) ∧ Kp [] wX w') := ⟨fun wX A c r n => unwrap_known A c wX r n⟩
  have H4 : As (∀ wX A c, Rd wX A (iv .u8 [120]) → Calls Try.prog 64 #[.slice A 1 c, .slice (some ⟨wX.heap.size, 0, none⟩) 1 1] (wX.alloc (.cells (iv .u8 [120]).toArray 5 (1, 2))) fun e w' => e = .returned (.bool true) ∧ Kp [] wX w') := ⟨fun wX A c r => by
    refine (haystacklaw22.same_any A (some ⟨wX.heap.size, 0, none⟩) 1 c 1 1 [120] [120] _ rfl rfl (((Kp.refl [] wX).alloc _).rd_new r (by simp)) (rds_mark (S := []) wX (iv .u8 [120]) 5 (1, 2) (by simp)).rd (by simp)).mono ?_
    rintro e w' ⟨rfl, q, rfl⟩
    exact ⟨by rw [decide_eq_true rfl], (((Kp.refl [] wX).alloc _).drewN q)⟩⟩
  go_enter Try.func35, Try.ntmps35
  go_wp2_with (first
    | (go_at_call 34; refine H1.out.mono ?_; rintro e w1 ⟨A1, c1, rfl, k1⟩; have HK1 := As.mk k1; clear k1 H1)
    | (go_at_call 63; refine (H2.out w1).mono ?_; rintro e w2 ⟨A2, c2, rfl, r2, n2, k2⟩; have HK2 : As (Kp [] w w2) := ⟨HK1.out.trans k2 (by simp)⟩; have HUN := As.mk (H3.out w2 A2 c2 r2 n2); clear k2 r2 n2 H2 H3)
    | (go_at_call 62; refine HUN.out.mono ?_; rintro e w3 ⟨A3, c3, rfl, r3, k3⟩; have HK3 : As (Kp [] w w3) := ⟨HK2.out.trans k3 (by simp)⟩; have HSA := As.mk (H4.out w3 A3 c3 r3); clear k3 r3 HUN H4)
    | (go_at_call 64; refine HSA.out.mono ?_; rintro e w4 ⟨rfl, k4⟩; have HK4 : As (Kp [] w w4) := ⟨HK3.out.trans k4 (by simp)⟩; clear k4 HSA))
  go_ret
  exact ⟨rfl, HK4.out⟩
end Go.Proofs.Ytiabdeciadfiiaa.wir
