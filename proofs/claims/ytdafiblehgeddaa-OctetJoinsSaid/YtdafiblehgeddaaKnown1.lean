/- haystacklaw1.known: true. -/
import Derived.Test.YtdafiblehgeddaaWriter
import Derived.Test.YtdafiblehgeddaaSum
import Derived.Test.YtdafiblehgeddaaUtil1
import Derived.Lib.SlBytesConst
namespace Go.Proofs.Ytdafiblehgeddaa.haystacklaw1
open Go.RowKit H O

theorem known_bytes : [] ++ nums [1, 300] ++ rows [[97]] = [1, 172, 2, 1, 97] := by
  have h1 : num 1 = [1] := enc_lo (by decide)
  have h2 : num 300 = [172, 2] := by
    show enc 300 = _
    rw [enc_hi (by decide), enc_lo (by decide)]
    rfl
  simp [nums, rows, row, h1, h2]
theorem known_crc : crc [[49, 50, 51, 52], [53, 54, 55, 56, 57]].flatten = 3421780262 := by decide +kernel

set_option maxHeartbeats 8000000 in
theorem known_any (w : World) : Calls Try.prog 11 #[] w fun e w' => e = .returned (.bool true) ∧ Kp [] w w' := by
  have HN := As.mk (writer.nums_any w.heap.size none [] (some ⟨w.heap.size + 1, 0, none⟩) 2 2 [1, 300] ((w.alloc (.cells #[.slice none 0 0] 25)).alloc (.cells #[.int .i64 1, .int .i64 300] 3))
    ((writer.Wr.new w).kp ((Kp.refl [] _).alloc _) (by simp) (by simp)) rfl (by
      have := RdS.lit (S := [w.heap.size]) (w.alloc (.cells #[.slice none 0 0] 25)) [.int .i64 1, .int .i64 300] 3 (by simp)
      simpa [iv] using this) (by decide))
  have kc := fun (w : World) (C : Array Value) (n c : Nat) => Lib.run_convert_bytes_const (P := Try.prog) w 23 5 C n c Try.underlying23 Try.underlying5
  have kc2 := fun (w : World) (o : Obj) (C : Array Value) (n c : Nat) => (show (convert 23 23 (.slice (some ⟨w.heap.size + 1, 0, none⟩) n c)).run Try.prog ((w.alloc o).alloc (.cells C 5)) = .ok (.slice (some ⟨w.heap.size + 1, 0, none⟩) n c) ((w.alloc o).alloc (.cells C 5 (C.size, C.size + 1))) by simpa using kc (w.alloc o) C n c)
  go_enter Try.func11, Try.ntmps11
  go_wp2_with (first
    | (go_at_call 12; refine HN.out.mono ?_; rintro e w1 ⟨rfl, g1, W1, A1, K1⟩; have HK1 : As (Kp [] w w1) := ⟨(((Kp.refl [] w).alloc _).alloc _).trans K1 (by simp)⟩; have HB := As.mk (writer.bytes_any w.heap.size g1 _ (some ⟨w1.heap.size + 1, 0, none⟩) 1 1 [[97]] ((w1.alloc (.cells (iv .u8 [97]).toArray 5 (1, 2))).alloc (.cells #[.slice (some ⟨w1.heap.size, 0, none⟩) 1 1] 23)) (W1.kp (((Kp.refl [] w1).alloc _).alloc _) (by simp) (by simp)) rfl (rs_one w1 [97] 1 rfl _ _ _ (by intro x hx; rcases List.mem_cons.1 hx with rfl | hx; exact W1.lt.1; exact W1.lt.2 x (by simpa using hx))) (by rw [List.nil_append]; exact Nat.le_trans (Nat.add_le_add_right (Nat.add_le_add_right (nums_len _) _) _) (by decide))); have HA1 := As.mk A1; clear W1 A1 K1)
    | (go_at_call 26; refine HB.out.mono ?_; rintro e w2 ⟨rfl, g2, W2, A2, K2⟩; rw [known_bytes] at W2; have HK2 : As (Kp [] w w2) := ⟨((HK1.out.alloc _).alloc _).trans K2 (by intro x hx; right; rcases List.mem_cons.1 hx with rfl | hx; exact Nat.le_refl _; exact HA1.out.ge (by simp <;> omega) (by simp) x (by simpa using hx))⟩; have HO := As.mk (writer.out_any w.heap.size g2 _ w2 W2 (by decide)); clear W2 A2 K2)
    | (go_at_call 13; refine HO.out.mono ?_; rintro e w3 ⟨v, rfl, O3, K3⟩; obtain ⟨A3, c3, rfl, _, _, R3, _⟩ := own_rd O3.1; have HK3 : As (Kp [] w w3) := ⟨HK2.out.trans K3 (by simp)⟩; have HS := As.mk (same_any A3 (some ⟨w3.heap.size, 0, none⟩) 5 c3 5 5 [1, 172, 2, 1, 97] [1, 172, 2, 1, 97] (w3.alloc (.cells (iv .u8 [1, 172, 2, 1, 97]).toArray 5)) rfl rfl (((Kp.refl [] w3).alloc _).rd_new R3 (by simp)) (rd_new w3 _ _) (by decide)); clear O3 K3 R3)
    | (go_at_call 14; refine HS.out.mono ?_; rintro e w4 ⟨rfl, n4, hw4⟩; have HK4 : As (Kp [] w w4) := ⟨by rw [hw4]; exact (HK3.out.alloc _).drewN _⟩; clear hw4; have HSUM := As.mk (sum.sum_any (some ⟨w4.heap.size + 1 + 1, 0, none⟩) 2 2 [[49, 50, 51, 52], [53, 54, 55, 56, 57]] [] (((w4.alloc (.cells (iv .u8 [49, 50, 51, 52]).toArray 5 (4, 5))).alloc (.cells (iv .u8 [53, 54, 55, 56, 57]).toArray 5 (5, 6))).alloc (.cells #[.slice (some ⟨w4.heap.size, 0, none⟩) 4 4, .slice (some ⟨w4.heap.size + 1, 0, none⟩) 5 5] 23)) rfl (rs_two (S := []) w4 [49, 50, 51, 52] [53, 54, 55, 56, 57] 4 5 rfl rfl 5 23 (4, 5) (5, 6) (by simp)) (by decide) (by decide) (by decide)))
    | (go_at_call 23; refine HSUM.out.mono ?_; rintro e w5 ⟨rfl, rfl⟩; rw [known_crc]))
  go_ret
  exact ⟨rfl, by repeat (first | exact HK4.out | apply Kp.alloc | apply Kp.drewN)⟩

end Go.Proofs.Ytdafiblehgeddaa.haystacklaw1
