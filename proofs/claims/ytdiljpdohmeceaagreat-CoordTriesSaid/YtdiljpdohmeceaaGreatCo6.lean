/- haystacklaw24.known: two shards are asked. -/
import Derived.Test.YtdiljpdohmeceaaGreatCo5
import Derived.Test.YtdiljpdohmeceaaGreatCo3
import Derived.Test.YtdiljpdohmeceaaGreatCoN
import Derived.Lib.SlBytesConst
namespace Go.Proofs.YtdiljpdohmeceaaGreat.co
open Go.RowKit H O opk frame wir

/-- a row of messages, read -/
theorem OutI.form {S : List Nat} {w : World} {v : Value} {ms : List Msg} (h : OutI S w v ms) : ∃ A c, v = .slice A ms.length c ∧ ms.length ≤ c ∧ (A = none → c = 0) := by
  obtain ⟨vs, h1, _, _⟩ := h
  obtain ⟨A, c, rfl, h2, _, _, h3⟩ := own_rd h1
  exact ⟨A, c, rfl, h2, h3⟩
theorem MsOk.get {S : List Nat} {w : World} : ∀ {l : List Msg} {vs : List Value} {i : Nat} {m : Msg}, MsOk S w l vs → l[i]? = some m → ∃ dv, vs[i * 3]? = some (.int .i64 m.frm) ∧ vs[i * 3 + 1]? = some (.int .i64 m.dst) ∧ vs[i * 3 + 2]? = some dv ∧ BSl S w dv m.data
  | [], _, _, _, _, h => by simp at h
  | x :: l, vs, 0, m, ⟨dv, b, h1, h2, _⟩, h => by
    cases h
    subst h1
    exact ⟨dv, rfl, rfl, rfl, h2⟩
  | x :: l, vs, i + 1, m, ⟨dv, b, h1, _, h3⟩, h => by
    subst h1
    obtain ⟨d, g1, g2, g3, g4⟩ := MsOk.get h3 (i := i) (m := m) (by simpa using h)
    refine ⟨d, ?_, ?_, ?_, g4⟩
    · rw [show (i + 1) * 3 = i * 3 + 3 by omega]; exact g1
    · rw [show (i + 1) * 3 + 1 = i * 3 + 1 + 3 by omega]; exact g2
    · rw [show (i + 1) * 3 + 2 = i * 3 + 2 + 3 by omega]; exact g3
theorem OutI.at {S : List Nat} {w : World} {g n c : Nat} {ms : List Msg} (h : OutI S w (.slice (some ⟨g, 0, none⟩) n c) ms) {i : Nat} {m : Msg} (hi : ms[i]? = some m) :
    ∃ dv, w.cell? ⟨g, i * 3, none⟩ = some (.int .i64 m.frm) ∧ w.cell? ⟨g, i * 3 + 1, none⟩ = some (.int .i64 m.dst) ∧ w.cell? ⟨g, i * 3 + 2, none⟩ = some dv ∧ BSl (g :: S) w dv m.data := by
  obtain ⟨vs, h1, _, h3⟩ := h
  have hn : ms.length = n := by
    rcases h1.2 with ⟨e, _⟩ | ⟨_, _, _, e, _⟩
    · cases e
    · cases e; rfl
  have hl := (List.getElem?_eq_some_iff.1 hi).1
  obtain ⟨dv, g1, g2, g3, g4⟩ := h3.get hi
  rw [← hn] at h1
  exact ⟨dv, by rw [h1.cellAt _ (by omega)]; exact g1, by rw [h1.cellAt _ (by omega)]; exact g2, by rw [h1.cellAt _ (by omega)]; exact g3, by simpa [Value.ownBlock] using g4⟩
theorem OutI.pos {S : List Nat} {w : World} {v : Value} {ms : List Msg} (h : OutI S w v ms) (hp : 0 < ms.length) : ∃ g c, v = .slice (some ⟨g, 0, none⟩) ms.length c ∧ ms.length ≤ c ∧ g ∉ S := by
  obtain ⟨vs, h1, h2, _⟩ := h
  obtain ⟨g, c, rfl, h3, _⟩ := own_form h1 hp
  exact ⟨g, c, rfl, h3, h2 g rfl⟩

/-- a literal of two rows of numbers -/
theorem ri_two (w : World) (xs ys : List Int) (n m : Nat) (hn : xs.length = n) (hm : ys.length = m) (t u : TypeId) :
    Ri [] (((w.alloc (.cells (iv .i64 xs).toArray t)).alloc (.cells (iv .i64 ys).toArray t)).alloc (.cells #[.slice (some ⟨w.heap.size, 0, none⟩) n n, .slice (some ⟨w.heap.size + 1, 0, none⟩) m m] u)) (some ⟨w.heap.size + 1 + 1, 0, none⟩) [xs, ys] := by
  subst hn hm
  obtain ⟨w1, h1⟩ : ∃ w1, w1 = w.alloc (.cells (iv .i64 xs).toArray t) := ⟨_, rfl⟩
  obtain ⟨w2, h2⟩ : ∃ w2, w2 = w1.alloc (.cells (iv .i64 ys).toArray t) := ⟨_, rfl⟩
  have s1 : w1.heap.size = w.heap.size + 1 := by rw [h1]; simp
  have s2 : w2.heap.size = w.heap.size + 1 + 1 := by rw [h2, World.size_alloc, s1]
  rw [← h1, ← h2]
  obtain ⟨W, hW⟩ : ∃ W, W = w2.alloc (.cells #[.slice (some ⟨w.heap.size, 0, none⟩) xs.length xs.length, .slice (some ⟨w.heap.size + 1, 0, none⟩) ys.length ys.length] u) := ⟨_, rfl⟩
  rw [← hW]
  have k12 : Kp [] w1 w2 := by rw [h2]; exact (Kp.refl [] w1).alloc _
  have k2W : Kp [] w2 W := by rw [hW]; exact (Kp.refl [] w2).alloc _
  have r1 : Rd W (some ⟨w.heap.size, 0, none⟩) (iv .i64 xs) := by
    have := rd_new w (iv .i64 xs) t
    rw [← h1] at this
    exact (k12.trans k2W (by simp)).rd_new this (by simp)
  have r2 : Rd W (some ⟨w.heap.size + 1, 0, none⟩) (iv .i64 ys) := by
    have := rd_new w1 (iv .i64 ys) t
    rw [← h2, s1] at this
    exact k2W.rd_new this (by simp)
  have hb : W.heap[w.heap.size + 1 + 1]? = some (.cells #[.slice (some ⟨w.heap.size, 0, none⟩) xs.length xs.length, .slice (some ⟨w.heap.size + 1, 0, none⟩) ys.length ys.length] u) := by
    rw [← s2, hW]
    exact heap_alloc_new w2 _
  intro j hj
  match j, hj with
  | 0, hj => exact ⟨_, _, _, rfl, by simp, by rw [Addr.add_lit]; exact blk_cell hb 0 rfl, Nat.le_refl _, by simp, RdS.new r1 (Kp.refl [] W) (by simp)⟩
  | 1, hj => exact ⟨_, _, _, rfl, by simp, by rw [Addr.add_lit]; exact blk_cell hb 1 rfl, Nat.le_refl _, by simp, RdS.new r2 (Kp.refl [] W) (by simp)⟩

def kCfg : Cfg := ⟨20, 5, 3, [[0, 1], [1, 2]]⟩
theorem grp01 : Grp [0, 1] := ⟨by decide, fun i h => by
  have : i = 0 ∨ i = 1 := by simp at h; omega
  rcases this with rfl | rfl
  · exact ⟨by simp, by omega⟩
  · exact ⟨by simp, fun _ => by simp⟩⟩
theorem grp12 : Grp [1, 2] := ⟨by decide, fun i h => by
  have : i = 0 ∨ i = 1 := by simp at h; omega
  rcases this with rfl | rfl
  · exact ⟨by simp, by omega⟩
  · exact ⟨by simp, fun _ => by simp⟩⟩
theorem newCs_ok {cf : Cfg} (h : CfgOk cf) : CsOk cf (newCs cf.shards.length) := by
  refine ⟨h, by simp [newCs], fun i h1 h2 => ?_, by simp [newCs], by simp [newCs], fun _ => rfl, by simp [newCs]⟩
  have := (h.grp _ (List.getElem_mem h2)).1
  simp [newCs]
  omega
theorem kCfg_ok : CfgOk kCfg := ⟨by decide, by decide, by decide, by decide, fun x hx => by
  simp only [kCfg, List.mem_cons, List.not_mem_nil, or_false] at hx
  rcases hx with rfl | rfl
  · exact grp01
  · exact grp12⟩
theorem CsOk.more {cf : Cfg} {s : Cs} (h : CsOk cf s) {j : Job} (hj : JobOk j) : CsOk cf (gives s j) := by
  refine ⟨h.cfg, h.wlen, h.whom, fun x hx => ?_, h.asks, fun e => ?_, h.few⟩
  · rcases List.mem_append.1 hx with e | e
    · exact h.jobs x e
    · have : x = j := by simpa using e
      rw [this]; exact hj
  · have e : s.jobs ++ [j] = [] := e
    simp at e
theorem jFind_ok {p : List Int} (h : p.length ≤ 64) (hw : Wf p) : JobOk (jFind p) := ⟨by show 1 ≤ 4 ∧ 4 ≤ 4; omega, fun e => absurd rfl e, ⟨by show p.length ≤ 4096; omega, hw⟩⟩

set_option maxHeartbeats 8000000 in
set_option maxRecDepth 100000 in
theorem known_any (w : World) : Calls Tryz.prog 7 #[] w fun e w' => e = .returned (.bool true) ∧ Kp [] w w' := by
  have kc := fun (w : World) (C : Array Value) (n c : Nat) => Lib.run_convert_bytes_const (P := Tryz.prog) w 24 5 C n c Tryz.underlying24 Tryz.underlying5
  have H1 : As (Calls Tryz.prog 24 #[.int .i64 20, .int .i64 5, .int .i64 3, .slice (some ⟨w.heap.size + 1 + 1, 0, none⟩) 2 2] (((w.alloc (.cells #[.int .i64 0, .int .i64 1] 3)).alloc (.cells #[.int .i64 1, .int .i64 2] 3)).alloc (.cells #[.slice (some ⟨w.heap.size, 0, none⟩) 2 2, .slice (some ⟨w.heap.size + 1, 0, none⟩) 2 2] 53)) fun e w' => ∃ L : Lay, e = .returned (.tuple #[.pointer (some ⟨L.b, 0, none⟩), .int .i64 0]) ∧
      As (CoSt [] w' L kCfg (newCs 2) ∧ (∀ x ∈ L.all, w.heap.size ≤ x) ∧ Kp [] w w')) := ⟨by
    refine (new_good 20 5 3 (some ⟨w.heap.size + 1 + 1, 0, none⟩) 2 2 [[0, 1], [1, 2]] _ rfl (ri_two w [0, 1] [1, 2] 2 2 rfl rfl _ _) kCfg_ok.grp (by decide) (by decide) (by decide) (by decide)).mono ?_
    rintro e w' ⟨L, rfl, hc, hl, hk⟩
    have k0 : Kp [] w (((w.alloc (.cells #[.int .i64 0, .int .i64 1] 3)).alloc (.cells #[.int .i64 1, .int .i64 2] 3)).alloc (.cells #[.slice (some ⟨w.heap.size, 0, none⟩) 2 2, .slice (some ⟨w.heap.size + 1, 0, none⟩) 2 2] 53)) := (((Kp.refl [] w).alloc _).alloc _).alloc _
    exact ⟨L, rfl, ⟨hc.out [] (by simp), fun x hx => Nat.le_trans k0.size (hl x hx), k0.trans hk (by simp)⟩⟩⟩
  have H2 : As (∀ wX L, CoSt [] wX L kCfg (newCs 2) → Calls Tryz.prog 25 #[.pointer (some ⟨L.b, 0, none⟩), .slice (some ⟨wX.heap.size, 0, none⟩) 1 1] (wX.alloc (.cells (iv .u8 [120]).toArray 5 (1, 2))) fun e w' => ∃ L' : Lay, e = .returned (.tuple #[.int .i64 0, .int .i64 0]) ∧ L'.b = L.b ∧ As (CoSt [] w' L' kCfg (gives (newCs 2) (jFind [120])) ∧ (∀ x ∈ L'.all, x ∈ L.all ∨ wX.heap.size ≤ x) ∧ Kp L.all wX w')) := ⟨fun wX L hC => by
    have kA : Kp [] wX (wX.alloc (.cells (iv .u8 [120]).toArray 5 (1, 2))) := (Kp.refl [] wX).alloc _
    have h := find_any [] (wX.alloc (.cells (iv .u8 [120]).toArray 5 (1, 2))) L kCfg (newCs 2) (some ⟨wX.heap.size, 0, none⟩) 1 1 [120] (hC.kp kA (by simp) (by simp)) (newCs_ok kCfg_ok) (by decide) rfl (rds_mark (S := []) wX (iv .u8 [120]) 5 (1, 2) (by simp)).rd (by simp) (by omega)
    rw [if_pos (by decide)] at h
    refine h.mono ?_
    rintro e w' ⟨rfl, L', q1, q2, q3⟩
    exact ⟨L', rfl, q2.1, ⟨q1, fun x hx => (q2.2 x hx).imp id (fun e => by simp at e; omega), (kA.mono (by simp)).trans q3 (fun x hx => .inl hx)⟩⟩⟩
  have htk : (tick kCfg (gives (newCs 2) (jFind [120]))).2 = [⟨20, 0, frameOf kCfg 0 (jFind [120]) 1 0⟩, ⟨20, 1, frameOf kCfg 0 (jFind [120]) 2 1⟩] := rfl
  have H3 : As (∀ wX L, CoSt [] wX L kCfg (gives (newCs 2) (jFind [120])) → Calls Tryz.prog 11 #[.pointer (some ⟨L.b, 0, none⟩)] wX fun e w' => ∃ g c, e = .returned (.slice (some ⟨g, 0, none⟩) 2 c) ∧ w'.cell? ⟨g, 0, none⟩ = some (.int .i64 20) ∧ w'.cell? ⟨g, 1, none⟩ = some (.int .i64 0) ∧ w'.cell? ⟨g, 4, none⟩ = some (.int .i64 1) ∧ As (Kp L.all wX w')) := ⟨fun wX L hC => by
    have hj : JobOk (jFind [120]) := jFind_ok (by decide) (by intro x hx; simp at hx; omega)
    refine (tick_begin [] wX L kCfg _ (jFind [120]) [] hC ((newCs_ok kCfg_ok).more hj) rfl rfl (by decide) (by decide)).mono ?_
    rintro e w' ⟨L', v, rfl, q1, q2, q3, q4⟩
    rw [htk] at q2
    obtain ⟨g, c, rfl, _, _⟩ := q2.pos (by simp)
    obtain ⟨_, c0, c1, _⟩ := q2.at (i := 0) rfl
    obtain ⟨_, _, c4, _⟩ := q2.at (i := 1) rfl
    exact ⟨g, c, rfl, c0, c1, c4, ⟨q4⟩⟩⟩
  clear htk
  go_enter Tryz.func7, Tryz.ntmps7
  go_wp2_with (first
    | (go_at_call 24; refine H1.out.mono ?_; rintro e w1 ⟨L, rfl, HN⟩; have HF := As.mk (H2.out w1 L HN.out.1); clear H1 H2)
    | (go_at_call 25; refine HF.out.mono ?_; rintro e w2 ⟨L2, rfl, hb, HN2⟩; have HT := H3.out w2 L2 HN2.out.1; rw [hb] at HT; have HT := As.mk HT; clear HF H3 hb)
    | (go_at_call 11; refine HT.out.mono ?_; rintro e w3 ⟨g, c, rfl, c0, c1, c4, HN3⟩; clear HT))
  go_ret
  refine ⟨rfl, ?_⟩
  have hs := HN.out.2.2.size
  have k2 := HN.out.2.2.trans HN2.out.2.2 (fun x hx => .inr (HN.out.2.1 x hx))
  exact k2.trans HN3.out (fun x hx => .inr ((HN2.out.2.1 x hx).elim (fun e => HN.out.2.1 x e) (fun e => by omega)))
end Go.Proofs.YtdiljpdohmeceaaGreat.co
