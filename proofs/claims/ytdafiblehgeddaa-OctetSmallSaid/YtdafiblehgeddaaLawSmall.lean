/- The walk of OctetSmall: a number has as few bytes as it can. -/
import Derived.Test.YtdafiblehgeddaaKnown1
namespace Go.Proofs.Ytdafiblehgeddaa.haystacklaw1
open Go.RowKit H O

/-- How many bytes follow: of x. -/
def more (x : Nat) : Nat := if x = 0 then 0 else (enc x).length
theorem more_pos {x : Nat} (h : 0 < x) : more x = 1 + more (x / 128) := by
  unfold more
  rw [if_neg (by omega)]
  by_cases h1 : x < 128
  · rw [enc_lo h1, if_pos (by omega)]; rfl
  · rw [enc_hi h1, if_neg (by omega), List.length_cons]; omega
theorem len_more (u : Nat) : (enc u).length = 1 + more (u / 128) := by
  by_cases h1 : u < 128
  · rw [enc_lo h1, more, if_pos (by omega)]; rfl
  · have := more_pos (x := u) (by omega)
    rw [← this, more, if_neg (by omega)]
theorem last_ne : ∀ (u : Nat), 0 < u → ∃ y, (enc u)[(enc u).length - 1]? = some y ∧ y ≠ 0 := by
  intro u
  induction u using Nat.strongRecOn with
  | _ u ih =>
    intro h
    by_cases h1 : u < 128
    · rw [enc_lo h1]; exact ⟨u, rfl, by omega⟩
    · obtain ⟨y, hy, hn⟩ := ih (u / 128) (by omega) (by omega)
      refine ⟨y, ?_, hn⟩
      rw [enc_hi h1, List.length_cons]
      have := enc_pos (u / 128)
      rw [show (enc (u / 128)).length + 1 - 1 = ((enc (u / 128)).length - 1) + 1 by omega, List.getElem?_cons_succ]
      exact hy

set_option maxHeartbeats 8000000 in
set_option maxRecDepth 100000 in
theorem small_any (w : World) (v : Int) (_hv : (Lit.int .i64 v).wf = true) :
    Calls Try.prog 3 #[.int .i64 v] w fun e w' => e = .returned (.bool true) ∧ Below w.heap.size w w' := by
  by_cases h0 : v < 0
  · go_enter Try.func3, Try.ntmps3
    go_wp2_with (go_at_call 11; refine (known_any _).mono ?_; rintro e w1 ⟨rfl, hk⟩; have HK := As.mk hk; clear hk)
    go_ret
    exact ⟨rfl, HK.out.below⟩
  · by_cases h1 : 4611686018427387904 < v
    · go_enter Try.func3, Try.ntmps3
      go_wp2_with (go_at_call 11; refine (known_any _).mono ?_; rintro e w1 ⟨rfl, hk⟩; have HK := As.mk hk; clear hk)
      go_ret
      exact ⟨rfl, HK.out.below⟩
    · obtain ⟨u, rfl⟩ := Int.eq_ofNat_of_zero_le (by omega : 0 ≤ v)
      have hu : num (u : Int) = enc u := by
        have : cl (u : Int) = u := by have := cl_of (n := (u : Int)) (by omega) (by omega); omega
        rw [num, this]
      obtain ⟨m, hm⟩ : ∃ m, (enc u).length = m := ⟨_, rfl⟩
      have hm9 : m ≤ 9 := by rw [← hm, ← hu]; exact num_len _
      have hm0 : 0 < m := by rw [← hm]; exact enc_pos u
      have HM := As.mk hm
      have HN := As.mk (writer.nums_any w.heap.size none [] (some ⟨w.heap.size + 1, 0, none⟩) 1 1 [(u : Int)] ((w.alloc (.cells #[.slice none 0 0] 25)).alloc (.cells #[.int .i64 (u : Int)] 3))
        ((writer.Wr.new w).kp ((Kp.refl [] _).alloc _) (by simp) (by simp)) rfl (by
          have := RdS.lit (S := [w.heap.size]) (w.alloc (.cells #[.slice none 0 0] 25)) [.int .i64 (u : Int)] 3 (by simp)
          simpa [iv] using this) (by decide))
      have HB : As ([] ++ nums [(u : Int)] = enc u) := ⟨by rw [nums_one, hu]; rfl⟩
      clear hu hm
      go_enter Try.func3, Try.ntmps3
      go_wp2_with (first
        | (go_at_call 12; refine HN.out.mono ?_; rintro e w1 ⟨rfl, g1, W1, A1, K1⟩; rw [HB.out] at W1; have HK1 : As (Kp [] w w1) := ⟨(((Kp.refl [] w).alloc _).alloc _).trans K1 (by simp)⟩; have HO := As.mk (writer.out_any w.heap.size g1 _ w1 W1 (by rw [HM.out]; omega)); clear W1 A1 K1)
        | (go_at_call 13; refine HO.out.mono ?_; rintro e w2 ⟨v, rfl, O2, K2⟩; have O2' := O2.1; rw [HM.out] at O2'; obtain ⟨g, cap, rfl, hcap, hcap2⟩ := own_form O2' hm0; have HK2 : As (Kp [] w w2) := ⟨HK1.out.trans K2 (by simp)⟩; have HO2 := As.mk O2'; clear O2 O2' K2))
      go_loop [5, 6] (fun c x => ∃ j y : Nat, c = .int .i64 (j : Int) ∧ x = .int .i64 (y : Int) ∧ j ≤ 9 ∧ As (m = j + more y)) (fun _ x => (intOf x).toNat)
      case atStart => exact ⟨1, u / 128, rfl, by go_num, by omega, ⟨by rw [← HM.out]; exact len_more u⟩⟩
      case round =>
        obtain ⟨j, y, rfl, rfl, hj, HY⟩ := hrel
        by_cases hy : 0 < y
        · have HY1 : As (m = j + 1 + more (y / 128)) := ⟨by have := HY.out; rw [more_pos hy] at this; omega⟩
          have hj1 : j + 1 ≤ 9 := by have := HY1.out; omega
          go_wp2
          go_round
          case rel => exact ⟨j + 1, y / 128, by go_num, by go_num, by omega, HY1⟩
          case measure => simp [intOf]; omega
        · obtain rfl : y = 0 := by omega
          obtain rfl : m = j := by have := HY.out; simp [more] at this; exact this
          have hcell := fun (i : Nat) (hi : i < m) => HO2.out.cellAt i (by omega)
          have HC := As.mk hcell
          clear hcell
          by_cases h128 : u < 128
          · obtain rfl : m = 1 := by rw [← HM.out, enc_lo h128]; rfl
            have d0 : w2.cell? ⟨g, 0, none⟩ = some (.int .u8 (u : Int)) := by rw [HC.out 0 (by omega), enc_lo h128]; rfl
            go_wp2_with (go_at_call 11; refine (known_any _).mono ?_; rintro e w3 ⟨rfl, hk⟩; have HK := As.mk hk; clear hk)
            go_ret
            exact ⟨rfl, (HK2.out.trans HK.out (by simp)).below⟩
          · have d0 : w2.cell? ⟨g, 0, none⟩ = some (.int .u8 ((u : Int) % 128 + 128)) := by rw [HC.out 0 (by omega), enc_hi h128]; rfl
            obtain ⟨z, hz, hz0⟩ := last_ne u (by omega)
            have hm2 : 2 ≤ m := by rw [← HM.out, enc_hi h128, List.length_cons]; have := enc_pos (u / 128); omega
            have d1 : w2.cell? ⟨g, m - 1, none⟩ = some (.int .u8 z) := by rw [HC.out (m - 1) (by omega)]; rw [HM.out] at hz; simp [iv, hz]
            have hz1 : (z != 0) = true := by simpa using hz0
            clear hz hz0
            go_wp2_with (go_at_call 11; refine (known_any _).mono ?_; rintro e w3 ⟨rfl, hk⟩; have HK := As.mk hk; clear hk)
            go_ret
            exact ⟨rfl, (HK2.out.trans HK.out (by simp)).below⟩

end Go.Proofs.Ytdafiblehgeddaa.haystacklaw1
