/- haystacklaw24: does, a Get. -/
import Derived.Test.YtdiljpdohmeceaaGreatTkm
import Derived.Test.YtdiljpdohmeceaaGreatCrm
namespace Go.Proofs.YtdiljpdohmeceaaGreat.co
open Go.RowKit H O opk frame wir
open cr (RLay RsSt RNewJ RGrew)

theorem Grew.le {w w1 : World} {L L1 : Lay} (h : Grew w1 L L1) (hs : w.heap.size ≤ w1.heap.size) : Grew w L L1 := ⟨h.1, fun x hx => (h.2 x hx).imp id (fun e => Nat.le_trans hs e)⟩
theorem cr.RGrew.le {w w1 : World} {L L1 : RLay} (h : RGrew w1 L L1) (hs : w.heap.size ≤ w1.heap.size) : RGrew w L L1 := ⟨h.1, fun x hx => (h.2 x hx).imp id (fun e => Nat.le_trans hs e)⟩
def actObj (kd n er hi wh fr : Int) (key : ByteArray) (BV MV : Value) : Obj := .cells #[.int .i64 kd, .int .i64 n, .int .i64 er, .int .i64 hi, .int .i64 wh, .int .i64 fr, .string key, BV, MV] 67
set_option maxHeartbeats 8000000 in
set_option maxRecDepth 100000 in
theorem does_get (U : List Nat) (w : World) (P : Nat) (L : Lay) (M : RLay) (cf : Cfg) (s : Cs) (WV : Value) (key : ByteArray) (h : PairP U w P L M cf s s WV) (ok : CsOk cf s) (hj : nextJ s ≤ 900000) (hk : 1 ≤ key.size ∧ key.size ≤ 64) :
    Calls Tryz.prog 20 #[.pointer (some ⟨P, 0, none⟩), .agg #[.int .i64 3, .int .i64 0, .int .i64 0, .int .i64 0, .int .i64 0, .int .i64 0, .string key, .slice none 0 0, .slice none 0 0]] w fun e w' => e = .returned (.bool true) ∧
      ∃ L' M', PairP U w' P L' M' cf (gives s (jGet key)) (gives s (jGet key)) WV ∧ Grew w L L' ∧ RGrew w M M' ∧ Kp (L.all ++ M.all) w w' := by
  obtain ⟨w0, hw0⟩ : ∃ w0, w.alloc (actObj 3 0 0 0 0 0 key (.slice none 0 0) (.slice none 0 0)) = w0 := ⟨_, rfl⟩
  have k0 : Kp [] w w0 := by rw [← hw0]; exact (Kp.refl [] w).alloc _
  have hq0 : w0.heap[w.heap.size]? = some (actObj 3 0 0 0 0 0 key (.slice none 0 0) (.slice none 0 0)) := by rw [← hw0]; exact heap_alloc_new w _
  have s0 : w0.heap.size = w.heap.size + 1 := by rw [← hw0]; simp
  have hP := lt_of_block h.hd
  have hmlt : ∀ x ∈ M.all, x < w.heap.size := fun x hx => h.x.lt x (List.mem_append.2 (.inl hx))
  have hllt : ∀ x ∈ L.all, x < w.heap.size := fun x hx => h.c.lt x (List.mem_append.2 (.inl hx))
  have H0 := As.mk (h.kp k0 (by simp) (by simp))
  have a6 := blk_cell hq0 6 rfl
  have a0 := blk_cell hq0 0 rfl
  have p0 := blk_cell H0.out.hd 0 rfl
  have HC1 : As (∀ wX, Kp [] w0 wX → Calls Tryz.prog 62 #[.pointer (some ⟨L.b, 0, none⟩), .string key] wX fun e w1 => e = .returned (.tuple #[.int .i64 (nextJ s : Int), .int .i64 0]) ∧ w1.cell? ⟨P, 1, none⟩ = some (.pointer (some ⟨M.b, 0, none⟩)) ∧ w1.cell? ⟨w.heap.size, 6, none⟩ = some (.string key) ∧
      As (∃ L1, PairP U w1 P L1 M cf (gives s (jGet key)) s WV ∧ Grew w L L1 ∧ Kp L.all w w1 ∧ w.heap.size < w1.heap.size)) := ⟨fun wX kX => by
    have hX := H0.out.kp kX (by simp) (by simp)
    have hg := get_any (P :: (M.all ++ U)) wX L cf s key hX.c ok hj
    rw [if_pos hk] at hg
    refine hg.mono ?_
    rintro e w1 ⟨rfl, L1, q1, q2, q3⟩
    have hp1 := hX.prog q1 q2 q3
    have hq1 := q3.blk (kX.blk hq0 (by simp)) (fun hm => by have := hllt _ hm; omega)
    have sX := kX.size
    have s1 := q3.size
    exact ⟨rfl, blk_cell hp1.hd 1 rfl, blk_cell hq1 6 rfl, ⟨L1, hp1, q2.le (by omega), ((k0.trans kX (by simp)).mono (by simp)).trans q3 (fun x hx => .inl hx), by omega⟩⟩⟩
  have HC2 : As (∀ w1 L1 wX, PairP U w1 P L1 M cf (gives s (jGet key)) s WV → Kp [] w1 wX → Calls Tryz.prog 63 #[.pointer (some ⟨M.b, 0, none⟩), .string key] wX fun e w2 => e = .returned (.tuple #[.int .i64 (nextJ s : Int), .int .i64 0]) ∧ w2.cell? ⟨P, 0, none⟩ = some (.pointer (some ⟨L1.b, 0, none⟩)) ∧ (∃ M1b, w2.cell? ⟨P, 1, none⟩ = some (.pointer (some ⟨M1b, 0, none⟩)) ∧
      As (∃ M1, M1.b = M1b ∧ PairP U w2 P L1 M1 cf (gives s (jGet key)) (gives s (jGet key)) WV ∧ RGrew w1 M M1 ∧ Kp M.all w1 w2))) := ⟨fun w1 L1 wX h1 kX => by
    have hX := h1.kp kX (by simp) (by simp)
    have hg := cr.get_any (P :: (L1.all ++ U)) wX M cf s key hX.x hj
    rw [if_pos hk] at hg
    refine hg.mono ?_
    rintro e w2 ⟨rfl, M1, q1, q2, q3⟩
    have hp2 := hX.docu q1 q2 q3
    exact ⟨rfl, blk_cell hp2.hd 0 rfl, M1.b, blk_cell hp2.hd 1 rfl, ⟨M1, rfl, hp2, q2.le kX.size, (kX.mono (by simp)).trans q3 (fun x hx => .inl hx)⟩⟩⟩
  have hjl : (gives s (jGet key)).jobs.length = s.jobs.length + 1 := by simp [gives]
  have hjn : s.ended + s.jobs.length ≤ 900000 := hj
  have hje : (gives s (jGet key)).ended = s.ended := rfl
  have HL1 : As (∀ w2 L1 M1 t, PairP U w2 P L1 M1 cf (gives s (jGet key)) t WV → ∀ wX, Kp [] w2 wX → Calls Tryz.prog 10 #[.pointer (some ⟨L1.b, 0, none⟩)] wX fun e w' => e = .returned (.int .i64 ((s.jobs.length + 1 : Nat) : Int)) ∧ w' = wX) := ⟨fun w2 L1 M1 t h2 wX kX => by
    have hX := h2.kp kX (by simp) (by simp)
    have := left_any _ wX L1 cf _ hX.c
    rw [hjl] at this
    exact this⟩
  have HL2 : As (∀ w2 L1 M1 t, PairP U w2 P L1 M1 cf t (gives s (jGet key)) WV → ∀ wX, Kp [] w2 wX → Calls Tryz.prog 69 #[.pointer (some ⟨M1.b, 0, none⟩)] wX fun e w' => e = .returned (.int .i64 ((s.jobs.length + 1 : Nat) : Int)) ∧ ∃ q, w' = wX.drewN q) := ⟨fun w2 L1 M1 t h2 wX kX => by
    have hX := h2.kp kX (by simp) (by simp)
    have := cr.left_any _ wX M1 cf _ hX.x (by rw [hjl, hje]; omega)
    rw [hjl] at this
    exact this⟩
  obtain ⟨nj, hnj⟩ : ∃ nj, nextJ s = nj := ⟨_, rfl⟩
  rw [hnj] at HC1 HC2
  obtain ⟨jl, hjl2⟩ : ∃ nj, s.jobs.length + 1 = nj := ⟨_, rfl⟩
  rw [hjl2] at HL1 HL2
  have HQ := As.mk hmlt
  clear hq0 h ok hj hk hP hmlt hllt k0 hjl hjn hje hnj hjl2
  go_enter Tryz.func20, Tryz.ntmps20
  go_upto_region 13 with fail
  rw [show w.alloc (Obj.cells #[.int .i64 3, .int .i64 0, .int .i64 0, .int .i64 0, .int .i64 0, .int .i64 0, .string key, .slice none 0 0, .slice none 0 0] 67) = w0 from hw0]
  clear hw0
  go_cut [5, 8] from 76 to 85 (fun v5 v8 wx => ∃ w1, w1 = wx ∧ v5 = .int .i64 (nj : Int) ∧ v8 = .int .i64 0 ∧ w1.cell? ⟨P, 1, none⟩ = some (.pointer (some ⟨M.b, 0, none⟩)) ∧ w1.cell? ⟨w.heap.size, 6, none⟩ = some (.string key) ∧ As (∃ L1, PairP U w1 P L1 M cf (gives s (jGet key)) s WV ∧ Grew w L L1 ∧ Kp L.all w w1 ∧ w.heap.size < w1.heap.size))
  case first =>
    go_region_law (go_simp; go_at_call 62; refine (HC1.out _ (by first | exact Kp.refl _ _ | exact (Kp.refl [] w0).drewN _)).mono ?_; rintro e w1 ⟨rfl, c1, c6, HM⟩)
    all_goals
      go_wp2_with fail
      go_meet
      exact ⟨_, rfl, rfl, rfl, c1, c6, HM⟩
  case rest =>
    obtain ⟨w1, rfl, rfl, rfl, c1, c6, HM⟩ := hcut
    obtain ⟨L1, HM⟩ := HM.out
    have HC3 := As.mk (fun wX kX => HC2.out w1 L1 wX HM.1 kX)
    have HM := As.mk HM
    clear HC1 HC2 a6 a0 p0 H0
    go_upto_region 14 with fail
    go_region_law (go_simp; go_at_call 63; refine (HC3.out _ (by first | exact Kp.refl _ _ | exact (Kp.refl [] w1).drewN _)).mono ?_; rintro e w2 ⟨rfl, d0, M1b, d1, HM2⟩)
    all_goals
      obtain ⟨M1, rfl, hm3⟩ := HM2.out
      have HA := As.mk (fun wX kX => HL1.out w2 L1 M1 _ hm3.1 wX kX)
      have HB := As.mk (fun wX kX => HL2.out w2 L1 M1 _ hm3.1 wX kX)
      have HM3 := As.mk hm3
      clear hm3 HM2
      clear HL1 HL2 HC3 c1 c6
      go_upto_region 33 with fail
      go_quiet (first
        | (go_at_call 10; refine Calls.quiet_of_same (HA.out _ (by first | exact Kp.refl _ _ | exact (Kp.refl [] w2).drewN _)))
        | (go_at_call 69; refine Calls.quiet_of (HB.out _ (by first | exact Kp.refl _ _ | exact (Kp.refl [] w2).drewN _))))
      go_wp2_with fail
      go_ret
      have hz := HM.out.2.2.1.size
      refine ⟨rfl, L1, M1, HM3.out.1.kp ((Kp.refl [] w2).drewN _) (by simp) (by simp), HM.out.2.1, HM3.out.2.1.le hz, ?_⟩
      exact ((HM.out.2.2.1.mono (fun x hx => .inl (List.mem_append.2 (.inl hx)))).trans HM3.out.2.2 (fun x hx => .inl (List.mem_append.2 (.inr hx)))).drewN _
end Go.Proofs.YtdiljpdohmeceaaGreat.co
