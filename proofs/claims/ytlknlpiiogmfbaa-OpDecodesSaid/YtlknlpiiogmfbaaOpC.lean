/- haystacklaw13: known, ops. -/
import Derived.Test.YtlknlpiiogmfbaaOpB
import Derived.Test.YtlknlpiiogmfbaaSame13
import Derived.Test.YtlknlpiiogmfbaaUtil13
import Derived.Lib.SlBytesConst
namespace Go.Proofs.Ytlknlpiiogmfbaa.haystacklaw13
open Go.RowKit H O opk

theorem known_bytes : opBytes 1 1 2 ⟨#[107]⟩ [116] = [1, 1, 2, 1, 107, 1, 116] := by
  have h1 : num 1 = [1] := enc_lo (by decide)
  have h2 : num 2 = [2] := enc_lo (by decide)
  have hk : kb ⟨#[107]⟩ = [107] := rfl
  simp [opBytes, nums, rows, row, h1, h2, hk]
theorem known_err : opErr 1 1 2 (ByteArray.size ⟨#[107]⟩) (List.length [(116 : Int)]) = 0 := by decide

set_option maxHeartbeats 8000000 in
theorem known_any (w : World) : Calls Try.prog 28 #[] w fun e w' => e = .returned (.bool true) ∧ Kp [] w w' := by
  have kc := fun (w : World) (C : Array Value) (n c : Nat) => Lib.run_convert_bytes_const (P := Try.prog) w 22 5 C n c Try.underlying22 Try.underlying5
  have HE := As.mk (encode_any 1 1 2 ⟨#[107]⟩ (some ⟨w.heap.size, 0, none⟩) 1 1 [116] (w.alloc (.cells (iv .u8 [116]).toArray 5 (1, 2))) rfl (rds_mark (S := []) w (iv .u8 [116]) 5 (1, 2) (by simp)).rd (Nat.le_refl _) (by simp) (by decide))
  go_enter Try.func28, Try.ntmps28
  go_wp2_with (first
    | (go_at_call 27; refine HE.out.mono ?_; rintro e w1 ⟨v, rfl, O1, K1⟩; rw [known_err, if_pos rfl, known_bytes] at O1; rw [known_err]; obtain ⟨A3, c3, rfl, _, _, R3, _⟩ := own_rd O1.1; have HK1 : As (Kp [] w w1) := ⟨((Kp.refl [] w).alloc _).trans K1 (by simp)⟩; have HS := As.mk (same_any A3 (some ⟨w1.heap.size, 0, none⟩) 7 c3 7 7 [1, 1, 2, 1, 107, 1, 116] [1, 1, 2, 1, 107, 1, 116] (w1.alloc (.cells (iv .u8 [1, 1, 2, 1, 107, 1, 116]).toArray 5)) rfl rfl (((Kp.refl [] w1).alloc _).rd_new R3 (by simp)) (rd_new w1 _ _) (by decide)); clear O1 K1 R3 HE)
    | (go_at_call 29; refine HS.out.mono ?_; rintro e w4 ⟨rfl, n4, hw4⟩; have HK4 : As (Kp [] w w4) := ⟨by rw [hw4]; exact (HK1.out.alloc _).drewN _⟩; clear hw4 HS))
  go_ret
  exact ⟨rfl, by repeat (first | exact HK4.out | apply Kp.alloc | apply Kp.drewN)⟩

theorem str_eq {a b : ByteArray} (h : a.toList = b.toList) : a = b := by
  rw [ByteArray.toList_eq, ByteArray.toList_eq] at h
  exact WideShapes.bytes_inj h
set_option maxHeartbeats 4000000 in
set_option maxRecDepth 100000 in
theorem ops_any (k1 c1 s1 : Int) (key1 : ByteArray) (A : Option Addr) (n c : Nat) (x : List Int) (k2 c2 s2 : Int) (key2 : ByteArray) (B : Option Addr) (m d : Nat) (y : List Int) (w : World) (hn : x.length = n) (hm : y.length = m) (hr : Rd w A (iv .u8 x)) (hr2 : Rd w B (iv .u8 y)) (hb : n ≤ 4611686018427387904) :
    Calls Try.prog 30 #[.agg #[.int .i64 k1, .int .i64 c1, .int .i64 s1, .string key1, .slice A n c], .agg #[.int .i64 k2, .int .i64 c2, .int .i64 s2, .string key2, .slice B m d]] w
      fun e w' => e = .returned (.bool (decide (k1 = k2 ∧ c1 = c2 ∧ s1 = s2 ∧ key1 = key2 ∧ x = y))) ∧ Kp [] w w' := by
  have HS : As (∀ wX, Kp [] w wX → Calls Try.prog 29 #[.slice A n c, .slice B m d] wX fun e w' => e = .returned (.bool (decide (x = y))) ∧ Kp [] w w') := ⟨fun wX k => by
    refine (same_any A B n c m d x y wX hn hm (k.rd_new hr (by simp)) (k.rd_new hr2 (by simp)) (by omega)).mono ?_
    rintro e w' ⟨rfl, n4, rfl⟩
    exact ⟨rfl, k.drewN _⟩⟩
  clear hn hm hr hr2
  have hkk : ¬ key1 = key2 → ¬ key1.toList = key2.toList := fun h e => h (str_eq e)
  by_cases hkey : key1 = key2
  all_goals (first | subst hkey | have hkn := hkk hkey)
  all_goals clear hkk
  all_goals go_enter Try.func30, Try.ntmps30
  all_goals go_wp2_with (go_at_call 29; refine (HS.out _ (((Kp.refl [] w).alloc _).alloc _)).mono ?_; rintro e w4 ⟨rfl, hk4⟩; have HK4 := As.mk hk4; clear hk4 HS)
  all_goals go_ret
  all_goals first
    | exact ⟨by simp [*], HK4.out⟩
    | exact ⟨by simp [*], ((Kp.refl [] w).alloc _).alloc _⟩

end Go.Proofs.Ytlknlpiiogmfbaa.haystacklaw13
