/- wire.Decode, wire.DecodeReply where they refuse. -/
import Derived.Test.YtiabdeciadfiiaaQ4A
import Derived.Test.YtiabdeciadfiiaaQ4B
import Derived.Deep.Cut
namespace Go.Proofs.Ytiabdeciadfiiaa.wir
open Go.RowKit H O opk frame

set_option maxHeartbeats 4000000 in
set_option maxRecDepth 100000 in
theorem decode_err (A : Option Addr) (n c : Nat) (xs : List Int) (er : Int) (w : World) (hn : xs.length = n) (hr : Rd w A (iv .u8 xs)) (hc : n ≤ c) (hw : Wf xs) (hm : n ≤ 140737488351232) (he : (fOne xs).2 = er) (h0 : er ≠ 0) :
    Calls Try.prog 36 #[.slice A n c] w fun e w' => e = .returned (.tuple #[.agg #[.int .i64 0, .int .i64 0, .int .i64 0, .slice none 0 0], .int .i64 er]) ∧ Kp [] w w' := by
  have HRD : As (∀ T wX, Kp [] w wX → Calls Try.prog 65 #[.slice A n c, .int .u8 113, .int .i64 8192, T] wX fun e w' => e = .returned (.tuple #[.slice none 0 0, .int .i64 er]) ∧ Kp [] wX w') := ⟨fun T wX kX => read_err A n c xs 113 8192 T er wX hn (kX.rd_new hr (by simp)) hc hw hm he h0⟩
  have bne : (er == 0) = false := by simpa using h0
  have HQ := As.mk (rq.Q4.new w (.int .i64 0) (.int .i64 0) (.int .i64 0) (.slice none 0 0))
  clear hn hr hc hw hm he h0
  go_enter Try.func36, Try.ntmps36
  go_wp2_with (go_at_call 65; refine (HRD.out _ _ ((((Kp.refl [] w).alloc _).alloc _).alloc _)).mono ?_; rintro e w4 ⟨rfl, k4⟩; have HK1 : As (Kp [] (w.alloc (.cells #[.int .i64 0, .int .i64 0, .int .i64 0, .slice none 0 0] 68)) w4) := ⟨(((Kp.refl [] _).alloc _).alloc _).trans k4 (by simp)⟩; have HQ4 := As.mk (HQ.out.kp HK1.out (by simp)); obtain ⟨q0, q1, q2, q3⟩ := HQ4.out.cells; have f0 := HQ4.out.free 0; have f1 := HQ4.out.free 1; have f2 := HQ4.out.free 2; have f3 := HQ4.out.free 3; clear k4 HRD)
  have hz := HQ4.out.set (.int .i64 0) (.int .i64 0) (.int .i64 0) (.slice none 0 0)
  (try simp only [Exit.inBlock, Exit.then])
  refine bodyPost_ret (hz.1.res rfl rfl) rfl ?_
  exact ⟨rfl, (((Kp.refl [] w).alloc _).trans HK1.out (by simp)).trans hz.2 (by intro x hx; simp at hx; right; omega)⟩

set_option maxHeartbeats 4000000 in
set_option maxRecDepth 100000 in
theorem reply_mark (A : Option Addr) (n c : Nat) (xs : List Int) (mk : Int) (r : List Int) (w : World) (hn : xs.length = n) (hr : Rd w A (iv .u8 xs)) (hc : n ≤ c) (hw : Wf xs) (hm : n ≤ 140737488351232) (he : fOne xs = (mk :: r, 0)) (hp : Wf (mk :: r)) (hl : (mk :: r).length ≤ 1100000) (h0 : mk ≠ 114) :
    Calls Try.prog 37 #[.slice A n c] w fun e w' => e = .returned (.tuple #[.agg #[.int .i64 0, .int .i64 0, .int .i64 0, .slice none 0 0], .int .i64 3]) ∧ Kp [] w w' := by
  have HRD : As (∀ T wX, Kp [] w wX → Calls Try.prog 65 #[.slice A n c, .int .u8 114, .int .i64 524288, T] wX fun e w' => e = .returned (.tuple #[.slice none 0 0, .int .i64 3]) ∧ Kp [] wX w') := ⟨fun T wX kX => read_mark A n c xs 114 524288 T mk r wX hn (kX.rd_new hr (by simp)) hc hw hm he hp hl h0⟩
  have HQ := As.mk (rp.Q4.new w (.int .i64 0) (.int .i64 0) (.int .i64 0) (.slice none 0 0))
  obtain ⟨w1, hw1⟩ : ∃ w1, w.alloc (.cells #[.int .i64 0, .int .i64 0, .int .i64 0, .slice none 0 0] 72) = w1 := ⟨_, rfl⟩
  rw [hw1] at HQ
  have HK1 : As (Kp [] w w1) := ⟨by rw [← hw1]; exact (Kp.refl [] w).alloc _⟩
  have hs1 : w1.heap.size = w.heap.size + 1 := by rw [← hw1]; simp
  have HE : As (∀ w5, Kp [] (((w1.alloc (.cells #[.int .i64 0, .int .i64 0, .int .i64 0, .slice none 0 0] 72)).alloc (.cells #[.int .i64 0] 3)).alloc (.cells #[.int .i64 0] 3)) w5 →
      As (rp.Q4 w5 w.heap.size (.int .i64 0) (.int .i64 0) (.int .i64 0) (.slice none 0 0)) ∧ As (rp.Q4 w5 (w.heap.size + 1) (.int .i64 0) (.int .i64 0) (.int .i64 0) (.slice none 0 0)) ∧ w5.cell? ⟨w.heap.size + 1 + 1, 0, none⟩ = some (.int .i64 0) ∧ w5.cell? ⟨w.heap.size + 1 + 1 + 1, 0, none⟩ = some (.int .i64 0) ∧ As (Kp [] w w5)) := ⟨fun w5 k5 => by
    obtain ⟨w2, hw2⟩ : ∃ w2, w1.alloc (.cells #[.int .i64 0, .int .i64 0, .int .i64 0, .slice none 0 0] 72) = w2 := ⟨_, rfl⟩
    have h2 := rp.Q4.new w1 (.int .i64 0) (.int .i64 0) (.int .i64 0) (.slice none 0 0)
    have k12 : Kp [] w1 w2 := by rw [← hw2]; exact (Kp.refl [] w1).alloc _
    have s2 : w2.heap.size = w.heap.size + 1 + 1 := by rw [← hw2, World.size_alloc, hs1]
    rw [hw2] at k5 h2
    have b3 := heap_alloc_new w2 (.cells #[.int .i64 0] 3)
    have b4 := heap_alloc_new (w2.alloc (.cells #[.int .i64 0] 3)) (.cells #[.int .i64 0] 3)
    have k23 : Kp [] w2 (w2.alloc (.cells #[.int .i64 0] 3)) := (Kp.refl [] w2).alloc _
    have k34 : Kp [] (w2.alloc (.cells #[.int .i64 0] 3)) ((w2.alloc (.cells #[.int .i64 0] 3)).alloc (.cells #[.int .i64 0] 3)) := (Kp.refl [] _).alloc _
    have k35 := k34.trans k5 (by simp)
    have k25 := k23.trans k35 (by simp)
    have k15 := k12.trans k25 (by simp)
    rw [World.size_alloc, s2] at b4
    rw [s2] at b3
    rw [hs1] at h2
    exact ⟨⟨HQ.out.kp k15 (by simp)⟩, ⟨h2.kp k25 (by simp)⟩, k35.cell (blk_cell b3 0 rfl) (by simp), k5.cell (blk_cell b4 0 rfl) (by simp), ⟨HK1.out.trans k15 (by simp)⟩⟩⟩
  clear hn hr hc hw hm he hp hl h0
  go_enter Try.func37, Try.ntmps37
  go_wp2_with (go_at_call 65; refine (HRD.out _ _ ((((HK1.out.alloc _).alloc _).alloc _).alloc _)).mono ?_; rintro e w5 ⟨rfl, k5⟩; obtain ⟨HA, HB, p0, p1, HK⟩ := HE.out w5 (((Kp.refl [] _).alloc _).trans k5 (by simp)); obtain ⟨q0, q1, q2, q3⟩ := HA.out.cells; have f0 := HA.out.free 0; have f1 := HA.out.free 1; have f2 := HA.out.free 2; have f3 := HA.out.free 3; obtain ⟨r0, r1, r2, r3⟩ := HB.out.cells; have g1 := HB.out.free 1; have g2 := HB.out.free 2; clear k5 HRD HE)
  have kS : Kp [w.heap.size + 1] w5 ((w5.setCell ⟨w.heap.size + 1, 1, none⟩ (.int .i64 0)).setCell ⟨w.heap.size + 1, 2, none⟩ (.int .i64 (-1))) := ((Kp.refl _ w5).setCell (.inl (by simp)) _).setCell (.inl (by simp)) _
  have hz := (HA.out.kp kS (by simp)).set (.int .i64 0) (.int .i64 0) (.int .i64 0) (.slice none 0 0)
  (try simp only [Exit.inBlock, Exit.then])
  refine bodyPost_ret (hz.1.res rfl rfl) rfl ?_
  exact ⟨rfl, (HK.out.trans kS (by intro x hx; simp at hx; right; omega)).trans hz.2 (by intro x hx; simp at hx; right; omega)⟩
end Go.Proofs.Ytiabdeciadfiiaa.wir
