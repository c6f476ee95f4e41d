/- haystacklaw21: known; what a nil Manifest does. -/
import Derived.Test.YtiabdeciadfiiaaManV
namespace Go.Proofs.Ytiabdeciadfiiaa.H
/-- one row of numbers, two rows, newly laid -/
theorem ri_one (w : World) (xs : List Int) (n : Nat) (hn : xs.length = n) (t u : TypeId) :
    Ri [] ((w.alloc (.cells (iv .i64 xs).toArray t)).alloc (.cells #[.slice (some ⟨w.heap.size, 0, none⟩) n n] u)) (some ⟨w.heap.size + 1, 0, none⟩) [xs] := by
  subst hn
  intro j hj
  obtain rfl : j = 0 := by simpa using hj
  have k := (Kp.refl [] (w.alloc (.cells (iv .i64 xs).toArray t))).alloc (.cells #[.slice (some ⟨w.heap.size, 0, none⟩) xs.length xs.length] u)
  refine ⟨_, _, _, rfl, by simp, ?_, Nat.le_refl _, by simp, (RdS.lit w (iv .i64 xs) t (by simp)).kp k (by simp)⟩
  rw [add_zero']
  simp
theorem ri_two (w : World) (xs ys : List Int) (n m : Nat) (hn : xs.length = n) (hm : ys.length = m) (t u : TypeId) :
    Ri [] (((w.alloc (.cells (iv .i64 xs).toArray t)).alloc (.cells (iv .i64 ys).toArray t)).alloc (.cells #[.slice (some ⟨w.heap.size, 0, none⟩) n n, .slice (some ⟨w.heap.size + 1, 0, none⟩) m m] u)) (some ⟨w.heap.size + 1 + 1, 0, none⟩) [xs, ys] := by
  subst hn hm
  intro j hj
  have k1 := (Kp.refl [] (w.alloc (.cells (iv .i64 xs).toArray t))).alloc (.cells (iv .i64 ys).toArray t)
  have k2 := (Kp.refl [] ((w.alloc (.cells (iv .i64 xs).toArray t)).alloc (.cells (iv .i64 ys).toArray t))).alloc (.cells #[.slice (some ⟨w.heap.size, 0, none⟩) xs.length xs.length, .slice (some ⟨w.heap.size + 1, 0, none⟩) ys.length ys.length] u)
  have hc := World.cell?_alloc_new ((w.alloc (.cells (iv .i64 xs).toArray t)).alloc (.cells (iv .i64 ys).toArray t)) #[.slice (some ⟨w.heap.size, 0, none⟩) xs.length xs.length, .slice (some ⟨w.heap.size + 1, 0, none⟩) ys.length ys.length] u j
  have hz : ((w.alloc (.cells (iv .i64 xs).toArray t)).alloc (.cells (iv .i64 ys).toArray t)).heap.size = w.heap.size + 1 + 1 := by simp
  rw [hz] at hc
  match j, hj, hc with
  | 0, hj, hc => exact ⟨_, _, _, rfl, by simp, by rw [add_zero']; exact hc, Nat.le_refl _, by simp, ((RdS.lit w (iv .i64 xs) t (by simp)).kp k1 (by simp)).kp k2 (by simp)⟩
  | 1, hj, hc => exact ⟨_, _, _, rfl, by simp, by rw [Addr.add_lit]; exact hc, Nat.le_refl _, by simp, by
      have := (RdS.lit (S := []) (w.alloc (.cells (iv .i64 xs).toArray t)) (iv .i64 ys) t (by simp)).kp k2 (by simp)
      simpa using this⟩
end Go.Proofs.Ytiabdeciadfiiaa.H
namespace Go.Proofs.Ytiabdeciadfiiaa.haystacklaw21
open Go.RowKit H O opk man

theorem num_small {v : Int} (h0 : 0 ≤ v) (h1 : v < 128) : num v = [v] := by
  have h2 := cl_of (n := v) h0 (by omega)
  have : O.cl v < 128 := by omega
  rw [num, enc_lo this, h2]
theorem rep_small {e v : Int} (h0 : 0 ≤ e) (h1 : e < 128) (h2 : 0 ≤ v) (h3 : v < 128) : repBytes e [v] = [e, 1, v] := by
  have e1 : min [v].length 8 = 1 := rfl
  have e2 : [v].take 1 = [v] := rfl
  rw [repBytes, e1, e2, nums_cons, nums_cons, nums_nil, num_small h0 h1, num_small (by omega) (by omega), nums_cons, nums_nil, num_small h2 h3]
  rfl
theorem own_list {w : World} {lo g n c : Nat} {v : Value} {l : List (List Int)} {x : List Int} (h : OwnL [] w lo v (x :: l)) (hv : v = .slice (some ⟨g, 0, none⟩) n c) : ∃ Aj cj, w.cell? ⟨g, 0, none⟩ = some (.slice Aj x.length cj) ∧ Rd w Aj (iv .i64 x) := by
  subst hv
  obtain ⟨vs, o, _, h3⟩ := h
  obtain ⟨u, hu, ho, _⟩ := h3 0 (by simp)
  obtain ⟨Aj, cj, rfl, _, _, hr, _⟩ := own_rd ho.1
  obtain ⟨_, _, hv, _, _, r, _⟩ := own_rd o
  cases hv
  obtain ⟨a, ha, hc⟩ := r 0 _ hu
  cases ha
  rw [add_zero'] at hc
  exact ⟨Aj, cj, hc, hr⟩

set_option maxHeartbeats 8000000 in
set_option maxRecDepth 100000 in
theorem known_any (w : World) : Calls Try.prog 8 #[] w fun e w' => e = .returned (.bool true) ∧ Kp [] w w' := by
  obtain ⟨F, hF⟩ : ∃ F, F = foundB [[0, 1]] := ⟨_, rfl⟩
  obtain ⟨M, hM⟩ : ∃ M, M = moveB 1 0 [1, 2] := ⟨_, rfl⟩
  obtain ⟨nF, hnF⟩ : ∃ n, F.length = n := ⟨_, rfl⟩
  obtain ⟨nM, hnM⟩ : ∃ n, M.length = n := ⟨_, rfl⟩
  have gF : gOk [[0, 1]] = true := by decide
  have gM : mvOk 1 0 [1, 2] = true := by decide
  have hF9 : nF ≤ 100 := by have h1 := gridB_len [[0, 1]]; have h2 := num_len 1; have h3 : gSize [[0, 1]] = 3 := rfl; rw [← hnF, hF, foundB, List.length_append]; omega
  have hM9 : nM ≤ 100 := by have h1 := nodesB_len [1, 2]; have h2 := nums_len [2, 1, 0]; rw [← hnM, hM, moveB, List.length_append]; simp only [List.length_cons, List.length_nil] at h1 h2; omega
  have wF : Wf F := by rw [hF]; intro x hx; rcases List.mem_append.1 hx with h | h; exact num_u8 _ x h; exact gridB_wf _ x h
  have wM : Wf M := by rw [hM]; intro x hx; rcases List.mem_append.1 hx with h | h; exact nums_u8 _ x h; exact nodesB_wf _ x h
  have aF : mApply 0 [] 0 1 F = ((1, [[0, 1]], 1), [0, 1, 1]) := by
    rw [mApply, if_pos (by decide), hF, mDo_found gF, if_neg (by decide)]
    rw [show repBytes 0 [((1 : Nat) : Int)] = [0, 1, 1] from rep_small (by decide) (by decide) (by decide) (by decide)]
  have aM : mApply 1 [[0, 1]] 1 2 M = ((2, [[1, 2]], 2), [0, 1, 2]) := by
    rw [mApply, if_pos (by decide), hM, mDo_move gM, if_neg (by decide), if_neg (by decide)]
    rw [show repBytes 0 [((1 + 1 : Nat) : Int)] = [0, 1, 2] from rep_small (by decide) (by decide) (by decide) (by decide)]
    rfl
  have HFO : As (∀ wX, Calls Try.prog 10 #[.slice (some ⟨wX.heap.size + 1, 0, none⟩) 1 1] ((wX.alloc (.cells #[.int .i64 0, .int .i64 1] 3)).alloc (.cells #[.slice (some ⟨wX.heap.size, 0, none⟩) 2 2] 22)) fun e w' => ∃ A1 c1, e = .returned (.tuple #[.slice A1 nF c1, .int .i64 0]) ∧ Rd w' A1 (iv .u8 F) ∧ (A1 = none → c1 = 0) ∧ (∀ a, A1 = some a → wX.heap.size ≤ a.block) ∧ Kp [] wX w') := ⟨fun wX => by
    refine (found_any (some ⟨wX.heap.size + 1, 0, none⟩) 1 1 [[0, 1]] _ rfl (ri_one wX [0, 1] 2 rfl _ _) (by decide)).mono ?_
    rintro e w' ⟨v, rfl, o, k⟩
    rw [foundR, if_pos gF, ← hF] at o
    rw [okZ, if_pos gF]
    have kk := ((Kp.refl [] wX).alloc (.cells #[.int .i64 0, .int .i64 1] 3)).alloc (.cells #[.slice (some ⟨wX.heap.size, 0, none⟩) 2 2] 22)
    have o' := o.lower kk.size
    obtain ⟨A1, c1, rfl, _, _, r1, n1⟩ := own_rd o.1
    rw [hnF] at o' ⊢
    exact ⟨A1, c1, rfl, r1, n1, fun a ha => o'.2 a.block (by rw [ha]; rfl), kk.trans k (by simp)⟩⟩
  have HMO : As (∀ wX, Calls Try.prog 13 #[.int .i64 1, .int .i64 0, .slice (some ⟨wX.heap.size, 0, none⟩) 2 2] (wX.alloc (.cells #[.int .i64 1, .int .i64 2] 3)) fun e w' => ∃ A1 c1, e = .returned (.tuple #[.slice A1 nM c1, .int .i64 0]) ∧ Rd w' A1 (iv .u8 M) ∧ (A1 = none → c1 = 0) ∧ (∀ a, A1 = some a → wX.heap.size ≤ a.block) ∧ Kp [] wX w') := ⟨fun wX => by
    refine (move_any 1 0 (some ⟨wX.heap.size, 0, none⟩) 2 2 [1, 2] _ rfl (rd_new wX [.int .i64 1, .int .i64 2] _) (by decide)).mono ?_
    rintro e w' ⟨v, rfl, o, k⟩
    rw [moveR, if_pos gM, ← hM] at o
    rw [okZ, if_pos gM]
    have kk := (Kp.refl [] wX).alloc (.cells #[.int .i64 1, .int .i64 2] 3)
    have o' := o.lower kk.size
    obtain ⟨A1, c1, rfl, _, _, r1, n1⟩ := own_rd o.1
    rw [hnM] at o' ⊢
    exact ⟨A1, c1, rfl, r1, n1, fun a ha => o'.2 a.block (by rw [ha]; rfl), kk.trans k (by simp)⟩⟩
  have hS0 := MSt.new (T := []) (lo := w.heap.size) w
  have HA1 : As (∀ wX A1 c1, MSt [] w.heap.size w.heap.size none 0 [] 0 wX → Kp [] w wX → Rd wX A1 (iv .u8 F) → (A1 = none → c1 = 0) → (∀ a, A1 = some a → a.block ≠ w.heap.size) → Calls Try.prog 12 #[.pointer (some ⟨w.heap.size, 0, none⟩), .int .i64 1, .slice A1 nF c1] wX fun e w' => ∃ A2 c2 g2, e = .returned (.slice A2 3 c2) ∧ Rd w' A2 (iv .u8 [0, 1, 1]) ∧ MSt [] w.heap.size w.heap.size g2 1 [[0, 1]] 1 w' ∧ Kp [w.heap.size] wX w' ∧ Kp [] w w') := ⟨fun wX A1 c1 s k r n ne => by
    refine (apply_any [] w.heap.size w.heap.size none 0 [] 0 1 A1 nF c1 F wX s ⟨by decide, by decide, by simp, by simp⟩ k.size (by simp) (by decide) hnF ne r n (by omega) wF).mono ?_
    rintro e w' ⟨v, g2, rfl, o, s2, _, k2⟩
    rw [aF] at o s2
    obtain ⟨A2, c2, rfl, _, _, r2, _⟩ := own_rd o.1
    exact ⟨A2, c2, g2, rfl, r2, s2, k2, k.trans k2 (by intro x hx; simp at hx; right; omega)⟩⟩
  have HA2 : As (∀ wX A1 c1 g, MSt [] w.heap.size w.heap.size g 1 [[0, 1]] 1 wX → Kp [] w wX → Rd wX A1 (iv .u8 M) → (A1 = none → c1 = 0) → (∀ a, A1 = some a → a.block ≠ w.heap.size) → Calls Try.prog 12 #[.pointer (some ⟨w.heap.size, 0, none⟩), .int .i64 2, .slice A1 nM c1] wX fun e w' => ∃ A2 c2 g2, e = .returned (.slice A2 3 c2) ∧ Rd w' A2 (iv .u8 [0, 1, 2]) ∧ MSt [] w.heap.size w.heap.size g2 2 [[1, 2]] 2 w' ∧ Kp [] w w') := ⟨fun wX A1 c1 g s k r n ne => by
    refine (apply_any [] w.heap.size w.heap.size g 1 [[0, 1]] 1 2 A1 nM c1 M wX s ⟨by decide, by decide, by decide, by decide⟩ k.size (by simp) (by decide) hnM ne r n (by omega) wM).mono ?_
    rintro e w' ⟨v, g2, rfl, o, s2, _, k2⟩
    rw [aM] at o s2
    obtain ⟨A2, c2, rfl, _, _, r2, _⟩ := own_rd o.1
    refine ⟨A2, c2, g2, rfl, r2, s2, k.trans k2 (fun x hx => ?_)⟩
    rcases List.mem_cons.1 hx with rfl | hx
    · exact .inr (Nat.le_refl _)
    · obtain ⟨_, _, _, hg, o9⟩ := s.blk
      obtain ⟨_, _, hv, _, _, _, h9⟩ := o9.form
      cases hv
      have hgx : g = some x := by simpa using hx
      rw [hgx] at hg
      obtain ⟨a, ha, hab⟩ := Option.map_eq_some_iff.1 hg
      have := (h9 a ha).1
      right; omega⟩
  have HSM : As (∀ wX A1 c1 (x y z : Int), Rd wX A1 (iv .u8 [x, y, z]) → Calls Try.prog 11 #[.slice A1 3 c1, .slice (some ⟨wX.heap.size, 0, none⟩) 3 3] (wX.alloc (.cells #[.int .u8 x, .int .u8 y, .int .u8 z] 5)) fun e w' => e = .returned (.bool true) ∧ Kp [] wX w') := ⟨fun wX A1 c1 x y z r => by
    have kk := (Kp.refl [] wX).alloc (.cells #[.int .u8 x, .int .u8 y, .int .u8 z] 5)
    refine (same_any A1 (some ⟨wX.heap.size, 0, none⟩) 3 c1 3 3 [x, y, z] [x, y, z] _ rfl rfl (kk.rd_new r (by simp)) (rd_new wX [.int .u8 x, .int .u8 y, .int .u8 z] _) (by simp)).mono ?_
    rintro e w' ⟨rfl, q, rfl⟩
    exact ⟨by rw [decide_eq_true rfl], kk.drewN q⟩⟩
  have HMP : As (∀ wX g, MSt [] w.heap.size w.heap.size g 2 [[1, 2]] 2 wX → Kp [] w wX → Calls Try.prog 14 #[.pointer (some ⟨w.heap.size, 0, none⟩)] wX fun e w' => ∃ g1 c1 Aj cj, e = .returned (.agg #[.int .i64 2, .slice (some ⟨g1, 0, none⟩) 1 c1]) ∧ w'.cell? ⟨g1, 0, none⟩ = some (.slice Aj 2 cj) ∧ Rd w' Aj (iv .i64 [1, 2]) ∧ Kp [] w w') := ⟨fun wX g s k => by
    refine (map_any [] w.heap.size w.heap.size g 2 [[1, 2]] 2 wX s ⟨by decide, by decide, by decide, by decide⟩).mono ?_
    rintro e w' ⟨A1, c1, rfl, o, k1⟩
    obtain ⟨vs, o1, _⟩ := id o
    obtain ⟨g1, cap, hv, _, _⟩ := own_form o1 (by decide)
    cases hv
    obtain ⟨Aj, cj, hc, hr⟩ := own_list o rfl
    exact ⟨g1, _, Aj, cj, rfl, hc, hr, k.trans k1 (by simp)⟩⟩
  have HIN : As (∀ wX A1 c1 (x y : Int), Rd wX A1 (iv .i64 [x, y]) → Calls Try.prog 15 #[.slice A1 2 c1, .slice (some ⟨wX.heap.size, 0, none⟩) 2 2] (wX.alloc (.cells #[.int .i64 x, .int .i64 y] 3)) fun e w' => e = .returned (.bool true) ∧ Kp [] wX w') := ⟨fun wX A1 c1 x y r => by
    have kk := (Kp.refl [] wX).alloc (.cells #[.int .i64 x, .int .i64 y] 3)
    refine (ints_any A1 (some ⟨wX.heap.size, 0, none⟩) 2 c1 2 2 [x, y] [x, y] _ rfl rfl (kk.rd_new r (by simp)) (rd_new wX [.int .i64 x, .int .i64 y] _) (by simp)).mono ?_
    rintro e w' ⟨rfl, q, rfl⟩
    exact ⟨by rw [decide_eq_true rfl], kk.drewN q⟩⟩
  have HS0 := As.mk hS0
  clear hF hM hnF hnM gF gM hF9 hM9 wF wM aF aM hS0
  go_enter Try.func8, Try.ntmps8
  go_wp2_with (first
    | (go_at_call 9; refine (new_any _).mono ?_; rintro e w1 ⟨rfl, hw1⟩; have HS1 : As (MSt [] w.heap.size w.heap.size none 0 [] 0 w1) := ⟨by rw [hw1]; exact HS0.out⟩; have HK1 : As (Kp [] w w1) := ⟨by rw [hw1]; exact (Kp.refl [] w).alloc _⟩; have HF1 := As.mk (HFO.out w1); have HLT1 : As (w.heap.size < w1.heap.size) := ⟨by rw [hw1]; simp⟩; clear hw1)
    | (go_at_call 10; refine HF1.out.mono ?_; rintro e w2 ⟨A2, c2, rfl, r2, n2, b2, k2⟩; have HS2 := As.mk (HS1.out.kp k2 (by simp)); have HK2 : As (Kp [] w w2) := ⟨HK1.out.trans k2 (by simp)⟩; have HLT2 : As (w.heap.size < w2.heap.size) := ⟨by have h8 := HLT1.out; have h9 := k2.size; omega⟩; have HR2 := As.mk r2; have HN2 := As.mk n2; have HB2 : As (∀ a, A2 = some a → a.block ≠ w.heap.size) := ⟨fun a ha => by have h7 := b2 a ha; have h8 := HLT1.out; omega⟩; have HM2 := As.mk (HMO.out w2); clear r2 n2 b2 k2 HF1)
    | (go_at_call 13; refine HM2.out.mono ?_; rintro e w3 ⟨A3, c3, rfl, r3, n3, b3, k3⟩; have HS3 := As.mk (HS2.out.kp k3 (by simp)); have HK3 : As (Kp [] w w3) := ⟨HK2.out.trans k3 (by simp)⟩; have HR3 := As.mk r3; have HN3 := As.mk n3; have HB3 : As (∀ a, A3 = some a → a.block ≠ w.heap.size) := ⟨fun a ha => by have h7 := b3 a ha; have h8 := HLT2.out; omega⟩; have HA3 := As.mk (HA1.out w3 A2 c2 HS3.out HK3.out (k3.rd HR2.out (fun _ _ => by simp)) HN2.out HB2.out); clear r3 n3 b3 k3 HM2)
    | (go_at_call 12; refine HA3.out.mono ?_; rintro e w4 ⟨A4, c4, g4, rfl, r4, s4, k4, kk4⟩; have HS4 := As.mk s4; have HK4 := As.mk kk4; have HR34 := As.mk (k4.rd HR3.out (fun a ha => by have h7 := HB3.out a ha; simp; omega)); have HSM4 := As.mk (HSM.out w4 A4 c4 0 1 1 r4); clear r4 s4 k4 kk4 HA3)
    | (go_at_call 11; refine HSM4.out.mono ?_; rintro e w5 ⟨rfl, k5⟩; have HA5 := As.mk (HA2.out w5 A3 c3 g4 (HS4.out.kp k5 (by simp)) (HK4.out.trans k5 (by simp)) (k5.rd HR34.out (fun _ _ => by simp)) HN3.out HB3.out); clear k5 HSM4)
    | (go_at_call 12; refine HA5.out.mono ?_; rintro e w6 ⟨A6, c6, g6, rfl, r6, s6, kk6⟩; have HS6 := As.mk s6; have HK6 := As.mk kk6; have HSM6 := As.mk (HSM.out w6 A6 c6 0 1 2 r6); clear r6 s6 kk6 HA5)
    | (go_at_call 11; refine HSM6.out.mono ?_; rintro e w7 ⟨rfl, k7⟩; have HM7 := As.mk (HMP.out w7 g6 (HS6.out.kp k7 (by simp)) (HK6.out.trans k7 (by simp))); clear k7 HSM6)
    | (go_at_call 14; refine HM7.out.mono ?_; rintro e w8 ⟨g8, c8, A8, d8, rfl, hc8, r8, k8⟩; have hg8 : g8 < w8.heap.size := World.block_lt_of_cell? w8 _ hc8; have d1 : ¬ g8 = w8.heap.size := (by omega); have HK8 := As.mk k8; have HIN8 := As.mk (HIN.out (w8.alloc (.cells #[.int .i64 2, .slice (some ⟨g8, 0, none⟩) 1 c8] 36)) A8 d8 1 2 (((Kp.refl [] w8).alloc _).rd r8 (fun _ _ => by simp))); rw [World.size_alloc] at HIN8; clear r8 k8 HM7)
    | (go_at_call 15; refine HIN8.out.mono ?_; rintro e w9 ⟨rfl, k9⟩; have HK9 : As (Kp [] w w9) := ⟨(HK8.out.alloc _).trans k9 (by simp)⟩; clear k9 HIN8))
  go_ret
  exact ⟨rfl, HK9.out⟩
end Go.Proofs.Ytiabdeciadfiiaa.haystacklaw21
