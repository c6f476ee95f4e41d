/- coord: (*Coord).sends, (*Coord).tried. -/
import Derived.Test.YtdiljpdohmeceaaGreatCoS
namespace Go.Proofs.YtdiljpdohmeceaaGreat.co
open Go.RowKit H O opk frame wir

/-- behind sends, tried: the ask turned to a' -/
def SendPost (U : List Nat) (L : Lay) (cf : Cfg) (s : Cs) (i p : Nat) (a a' : Ask) (w : World) (e : Ending) (w' : World) : Prop :=
  ∃ v, e = .returned (.agg #[.int .i64 (cf.id : Int), .int .i64 (dest cf s.whom a.shard), v]) ∧ BSl (L.all ++ U) w' v a.frame ∧ CoSt U w' L cf { s with asks := s.asks.set i a' } ∧ Kp [p] w w'

set_option maxHeartbeats 4000000 in
set_option maxRecDepth 100000 in
theorem sends_any (U : List Nat) (w : World) (L : Lay) (cf : Cfg) (s : Cs) (i p : Nat) (a : Ask) (hC : CoSt U w L cf s) (ok : CsOk cf s) (hp : L.az[i]? = some p) (ha : s.asks[i]? = some a) :
    Calls Tryz.prog 48 #[.pointer (some ⟨L.b, 0, none⟩), .pointer (some ⟨p, 0, none⟩)] w (SendPost U L cf s i p a { a with waited := 0 } w) := by
  obtain ⟨κ, VS, VW, VJ, VD, MV, AV, l, h⟩ := hC
  have aok := ok.asks a (List.mem_of_getElem? ha)
  obtain ⟨b, o, cS, Ab, Ao, nj, cj, cw, wi, rfl, hb, c0, hAb, rfl, cw1, fw1, e2, hlt, h7, e7, c2⟩ := h.dest ok aok.shard
  obtain ⟨kd, dv, fv, hbp, hbs⟩ := h.aa i a p ha hp
  obtain ⟨Af, cF, rfl, hrf, hcf, hcm, hnf⟩ := hbs
  have x0 : w.cell? ⟨p, 5, none⟩ = some (.int .i64 (a.waited : Int)) := blk_cell hbp 5 rfl
  have f0 := blk_free hbp 5
  have hpl : p < w.heap.size := lt_of_block hbp
  have hpn : ¬ p = w.heap.size := by omega
  have hwl := ok.wlen
  have i0 : (0 : Int) ≤ (a.shard : Int) := by omega
  have i1 : (a.shard : Int) < (cf.shards.length : Int) := by have := aok.shard; omega
  have i2 : (a.shard : Int) < (s.whom.length : Int) := by have := aok.shard; omega
  have i3 : (0 : Int) ≤ (wi : Int) := by omega
  have i4 : (wi : Int) < (nj : Int) := by omega
  obtain ⟨W1, hW1⟩ : ∃ W1, W1 = (w.setCell ⟨p, 5, none⟩ (.int .i64 0)).alloc (.cells #[.int .i64 0, .int .i64 0, .slice none 0 0] 44) := ⟨_, rfl⟩
  have hs1 : W1.heap.size = w.heap.size + 1 := by rw [hW1]; simp
  have hpa := (h.sep.az p (List.mem_of_getElem? hp))
  have hpm : p ∈ L.all ++ U := List.mem_append.2 (.inl (Lay.mem.2 (by simp [List.mem_of_getElem? hp])))
  have hgw := h.sep.gw
  have hbL := h.sep.b
  have kA : Kp [p] w (w.setCell ⟨p, 5, none⟩ (.int .i64 0)) := (Kp.refl [p] w).setCell (.inl (by simp)) _
  have kB : Kp [] (w.setCell ⟨p, 5, none⟩ (.int .i64 0)) W1 := by rw [hW1]; exact (Kp.refl [] _).alloc _
  have k1 : Kp [p] w W1 := kA.trans kB (by simp)
  have hbA : (w.setCell ⟨p, 5, none⟩ (.int .i64 0)).heap[p]? = some (.cells #[.int .i64 kd, .int .i64 (a.ctx : Int), .int .i64 (a.shard : Int), dv, .slice Af a.frame.length cF, .int .i64 ((0 : Nat) : Int), .int .i64 (a.tried : Int), .bool a.hinted, .bool a.answered] 101 (0, 0)) := heap_setCell_same _ p 5 _ _ (.int .i64 0) hbp
  have hb1 := kB.blk hbA (by simp)
  have hm1 : M3 W1 w.heap.size (.int .i64 0) (.int .i64 0) (.slice none 0 0) := by
    rw [hW1]
    have := heap_alloc_new (w.setCell ⟨p, 5, none⟩ (.int .i64 0)) (.cells #[.int .i64 0, .int .i64 0, .slice none 0 0] 44)
    rwa [World.size_setCell] at this
  have hask : AskAt (L.all ++ U) (w.setCell ⟨p, 5, none⟩ (.int .i64 0)) p { a with waited := 0 } := ⟨kd, dv, _, hbA, Af, cF, rfl, hrf.kp kA (by intro x hx; simp at hx; subst hx; exact .inl hpm), hcf, hcm, hnf⟩
  have hP1 := (h.ask hp ha kA hask rfl).kp (U2 := w.heap.size :: U) kB (by simp) (fun x hx => by
    rcases List.mem_cons.1 hx with rfl | e
    · exact .inr ⟨by simp, by omega⟩
    · exact .inl e)
  have nb : b ∉ [p] := by simp; intro e; subst e; exact hb hpm
  have nA : Ab ∉ [p] := by simp; intro e; subst e; exact hAb hpm
  have nw : L.gw ∉ [p] := by simp; intro e; subst e; omega
  have KX : As (∀ wX, Kp [w.heap.size] W1 wX → wX.cell? ⟨L.b, 0, none⟩ = some (.int .i64 (cf.id : Int)) ∧ wX.cell? ⟨L.b, 3, none⟩ = some (.slice (some ⟨b, o, none⟩) cf.shards.length cS) ∧ wX.cell? ⟨L.b, 4, none⟩ = some (.slice (some ⟨L.gw, 0, none⟩) s.whom.length cw) ∧
      wX.cell? ⟨p, 2, none⟩ = some (.int .i64 (a.shard : Int)) ∧ wX.cell? ⟨p, 4, none⟩ = some (.slice Af a.frame.length cF) ∧ wX.cell? ⟨b, o + a.shard, none⟩ = some (.slice (some ⟨Ab, Ao, none⟩) nj cj) ∧ wX.cell? ⟨L.gw, a.shard, none⟩ = some (.int .i64 (wi : Int)) ∧
      wX.cell? ⟨Ab, Ao + wi, none⟩ = some (.int .i64 (dest cf s.whom a.shard))) := ⟨fun wX kX => by
    have hdX := kX.blk hP1.hd (by simp; omega)
    have hbX := kX.blk hb1 (by simp; omega)
    have c2' := c2 wi hlt
    have lb := World.block_lt_of_cell? w _ c0
    have lA := World.block_lt_of_cell? w _ c2'
    refine ⟨blk_cell hdX 0 rfl, blk_cell hdX 3 rfl, blk_cell hdX 4 rfl, blk_cell hbX 2 rfl, blk_cell hbX 4 rfl, kX.cell (k1.cell c0 nb) (by simp at lb ⊢; omega), kX.cell (k1.cell cw1 nw) (by simp; omega), ?_⟩
    rw [dest, e2]
    exact kX.cell (k1.cell c2' nA) (by simp at lA ⊢; omega)⟩
  have HCL : As (∀ wX, Kp [] W1 wX → Calls Tryz.prog 29 #[.slice Af a.frame.length cF] wX fun e w' => ∃ A2 c2, e = .returned (.slice A2 a.frame.length c2) ∧ As (Own 5 .u8 w' W1.heap.size (.slice A2 a.frame.length c2) a.frame) ∧ As (Kp [] W1 w')) := ⟨fun wX kX => by
    refine (cloneb_any Af a.frame.length cF a.frame wX rfl ((hrf.kp k1 (by intro x hx; simp at hx; subst hx; exact .inl hpm)).kp kX (by simp)).rd hnf (by have := aok.frame.1; omega)).mono ?_
    rintro e w' ⟨v, rfl, ho, hk⟩
    obtain ⟨A2, c2, rfl, _⟩ := own_rd ho.1
    exact ⟨A2, c2, rfl, ⟨ho.lower kX.size⟩, ⟨kX.trans hk (by simp)⟩⟩⟩
  have HW1 := As.mk hW1
  have HMX : As (∀ wX, Kp [] W1 wX → wX.cell? ⟨w.heap.size, 0, none⟩ = some (.int .i64 0) ∧ wX.cell? ⟨w.heap.size, 1, none⟩ = some (.int .i64 0) ∧ wX.cell? ⟨w.heap.size, 2, none⟩ = some (.slice none 0 0) ∧ wX.frozen? ⟨w.heap.size, 0, none⟩ = false ∧ wX.frozen? ⟨w.heap.size, 1, none⟩ = false ∧ wX.frozen? ⟨w.heap.size, 2, none⟩ = false) := ⟨fun wX kX => by
    have hX := hm1.kp kX (by simp)
    exact ⟨blk_cell hX 0 rfl, blk_cell hX 1 rfl, blk_cell hX 2 rfl, blk_free hX 0, blk_free hX 1, blk_free hX 2⟩⟩
  have HL := As.mk h.sep
  have HP1 := As.mk hP1
  have HM1 := As.mk hm1
  have HK1 := As.mk k1
  have HS1 := As.mk hs1
  clear hW1 h hbp hrf hcf hnf hcm e2 e7 c2 hp ha ok aok hb hAb c0 cw1 fw1 hwl hP1 hm1 k1 hs1 hpa hpm hgw hbL hb1 hask nb nA nw kA kB hbA
  go_enter Tryz.func48, Tryz.ntmps48
  go_upto_region 2 with fail
  rw [← HW1.out]
  go_region_held3 (fun wX => wX.cell? ⟨L.b, 0, none⟩ = some (.int .i64 (cf.id : Int)) ∧ wX.cell? ⟨L.b, 3, none⟩ = some (.slice (some ⟨b, o, none⟩) cf.shards.length cS) ∧ wX.cell? ⟨L.b, 4, none⟩ = some (.slice (some ⟨L.gw, 0, none⟩) s.whom.length cw) ∧
      wX.cell? ⟨p, 2, none⟩ = some (.int .i64 (a.shard : Int)) ∧ wX.cell? ⟨p, 4, none⟩ = some (.slice Af a.frame.length cF) ∧ wX.cell? ⟨b, o + a.shard, none⟩ = some (.slice (some ⟨Ab, Ao, none⟩) nj cj) ∧ wX.cell? ⟨L.gw, a.shard, none⟩ = some (.int .i64 (wi : Int)) ∧
      wX.cell? ⟨Ab, Ao + wi, none⟩ = some (.int .i64 (dest cf s.whom a.shard)))
    (first | exact KX.out _ (Kp.refl _ W1) | exact KX.out _ (Kp.refl _ W1).drew | exact KX.out _ ((Kp.refl _ W1).drewN _) | exact KX.out _ (HK2.out.mono (by simp)) | exact KX.out _ ((HK2.out.mono (T := [w.heap.size]) (by simp)).drewN _) | exact KX.out _ (((((HK2.out.mono (T := [w.heap.size]) (by simp))).setCell (.inl (by simp)) _).setCell (.inl (by simp)) _).setCell (.inl (by simp)) _))
    (first | (go_at_call 29; refine (HCL.out _ (by first | exact Kp.refl [] W1 | exact (Kp.refl [] W1).drew | exact (Kp.refl [] W1).drewN _)).mono ?_; rintro e w2 ⟨A2, c2, rfl, HO2, HK2⟩; obtain ⟨m0, m1, m2, g0, g1, g2⟩ := HMX.out w2 HK2.out))
  go_wp2
  have hz := (HM1.out.kp HK2.out (by simp)).set (.int .i64 (cf.id : Int)) (.int .i64 (dest cf s.whom a.shard)) (.slice A2 a.frame.length c2)
  (try simp only [Exit.inBlock, Exit.then])
  refine bodyPost_ret (hz.1.res rfl rfl) rfl ?_
  have hs := HS1.out
  have kz : Kp [w.heap.size] W1 _ := (HK2.out.mono (by simp)).trans hz.2 (by simp)
  have hlt : ∀ x ∈ L.all ++ U, x < w.heap.size := by
    intro x hx
    rcases List.mem_append.1 hx with e | e
    · exact (HL.out.pos e).2
    · exact (HL.out.U x e).2
  have hin := (HP1.out.kp (U2 := w.heap.size :: U) HK2.out (by simp) (fun x hx => .inl hx)).kp (U2 := U) hz.2 (by simp) (fun x hx => .inl (by simp [hx]))
  refine ⟨_, rfl, ?_, ⟨_, _, _, _, _, _, _, _, hin⟩, ?_⟩
  · refine (BSl.own (S := w.heap.size :: (L.all ++ U)) HO2.out (fun x hx => .inl ?_)).kp hz.2 (by simp) (fun x hx => .inl (List.mem_cons_of_mem _ hx))
    rcases List.mem_cons.1 hx with rfl | e
    · omega
    · have := hlt x e; omega
  · exact HK1.out.trans kz (by simp)

set_option maxHeartbeats 4000000 in
set_option maxRecDepth 100000 in
theorem tried_any (U : List Nat) (w : World) (L : Lay) (cf : Cfg) (s : Cs) (i p : Nat) (a : Ask) (hC : CoSt U w L cf s) (ok : CsOk cf s) (hp : L.az[i]? = some p) (ha : s.asks[i]? = some a) (hlt : a.tried < cf.tries) :
    Calls Tryz.prog 31 #[.pointer (some ⟨L.b, 0, none⟩), .pointer (some ⟨p, 0, none⟩)] w (SendPost U L cf s i p a { a with waited := 0, tried := a.tried + 1, hinted := false } w) := by
  obtain ⟨κ, VS, VW, VJ, VD, MV, AV, l, h⟩ := hC
  have aok := ok.asks a (List.mem_of_getElem? ha)
  obtain ⟨kd, dv, fv, hbp, hbs⟩ := h.aa i a p ha hp
  have x0 : w.cell? ⟨p, 6, none⟩ = some (.int .i64 (a.tried : Int)) := blk_cell hbp 6 rfl
  have x1 : w.cell? ⟨p, 7, none⟩ = some (.bool a.hinted) := blk_cell hbp 7 rfl
  have f0 := blk_free hbp 6
  have f1 := blk_free hbp 7
  have hpl : p < w.heap.size := lt_of_block hbp
  have hpn : ¬ p = w.heap.size := by omega
  have i0 : (0 : Int) ≤ (a.tried : Int) := by omega
  have i1 : (a.tried : Int) ≤ 1000 := by have := ok.cfg.tries; omega
  have hpm : p ∈ L.all ++ U := List.mem_append.2 (.inl (Lay.mem.2 (by simp [List.mem_of_getElem? hp])))
  obtain ⟨WA, hWA⟩ : ∃ WA, WA = (w.setCell ⟨p, 6, none⟩ (.int .i64 ((a.tried : Int) + 1))).setCell ⟨p, 7, none⟩ (.bool false) := ⟨_, rfl⟩
  obtain ⟨W1, hW1⟩ : ∃ W1, W1 = ((w.setCell ⟨p, 6, none⟩ (.int .i64 ((a.tried : Int) + 1))).setCell ⟨p, 7, none⟩ (.bool false)).alloc (.cells #[.int .i64 0, .int .i64 0, .slice none 0 0] 44) := ⟨_, rfl⟩
  have hsA : WA.heap.size = w.heap.size := by rw [hWA]; simp
  have hs1 : W1.heap.size = w.heap.size + 1 := by rw [hW1, World.size_alloc, ← hWA, hsA]
  have kA : Kp [p] w WA := by rw [hWA]; exact ((Kp.refl [p] w).setCell (.inl (by simp)) _).setCell (.inl (by simp)) _
  have kB : Kp [] WA W1 := by rw [hW1, ← hWA]; exact (Kp.refl [] _).alloc _
  have k1 : Kp [p] w W1 := kA.trans kB (by simp)
  have hbA : WA.heap[p]? = some (.cells #[.int .i64 kd, .int .i64 (a.ctx : Int), .int .i64 (a.shard : Int), dv, fv, .int .i64 (a.waited : Int), .int .i64 ((a.tried + 1 : Nat) : Int), .bool false, .bool a.answered] 101 (0, 0)) := by
    rw [hWA]
    exact heap_setCell_same _ p 7 _ _ (.bool false) (heap_setCell_same _ p 6 _ _ (.int .i64 ((a.tried : Int) + 1)) hbp)
  have hm1 : M3 W1 w.heap.size (.int .i64 0) (.int .i64 0) (.slice none 0 0) := by
    rw [hW1, ← hWA, ← hsA]
    exact heap_alloc_new WA _
  have hask : AskAt (L.all ++ U) WA p { a with tried := a.tried + 1, hinted := false } := ⟨kd, dv, fv, hbA, hbs.kp kA (by intro x hx; simp at hx; subst hx; exact .inl hpm) (fun x hx => .inl hx)⟩
  have hP1 := (h.ask hp ha kA hask rfl).kp (U2 := w.heap.size :: U) kB (by simp) (fun x hx => by
    rcases List.mem_cons.1 hx with rfl | e
    · exact .inr ⟨by omega, by omega⟩
    · exact .inl e)
  have HSN : As (Calls Tryz.prog 48 #[.pointer (some ⟨L.b, 0, none⟩), .pointer (some ⟨p, 0, none⟩)] W1 fun e w2 => ∃ A2 c2, e = .returned (.agg #[.int .i64 (cf.id : Int), .int .i64 (dest cf s.whom a.shard), .slice A2 a.frame.length c2]) ∧
      (w2.cell? ⟨w.heap.size, 0, none⟩ = some (.int .i64 0) ∧ w2.cell? ⟨w.heap.size, 1, none⟩ = some (.int .i64 0) ∧ w2.cell? ⟨w.heap.size, 2, none⟩ = some (.slice none 0 0) ∧ w2.frozen? ⟨w.heap.size, 0, none⟩ = false ∧ w2.frozen? ⟨w.heap.size, 1, none⟩ = false ∧ w2.frozen? ⟨w.heap.size, 2, none⟩ = false) ∧
      As (M3 w2 w.heap.size (.int .i64 0) (.int .i64 0) (.slice none 0 0) ∧ SendPost (w.heap.size :: U) L cf { s with asks := s.asks.set i { a with tried := a.tried + 1, hinted := false } } i p { a with tried := a.tried + 1, hinted := false } { a with waited := 0, tried := a.tried + 1, hinted := false } W1 (.returned (.agg #[.int .i64 (cf.id : Int), .int .i64 (dest cf s.whom a.shard), .slice A2 a.frame.length c2])) w2)) := ⟨by
    have hl := (List.getElem?_eq_some_iff.1 ha).1
    refine (sends_any (w.heap.size :: U) W1 L cf _ i p { a with tried := a.tried + 1, hinted := false } ⟨_, _, _, _, _, _, _, _, hP1⟩ (ok.ask i ⟨aok.shard, aok.ctx, aok.frame, hlt, aok.waited⟩) hp (by simp [hl])).mono ?_
    rintro e w2 ⟨v, rfl, hv, hc, hk⟩
    obtain ⟨A2, c2, rfl, _⟩ := id hv
    have hX := hm1.kp hk (by simp; omega)
    exact ⟨A2, c2, rfl, ⟨blk_cell hX 0 rfl, blk_cell hX 1 rfl, blk_cell hX 2 rfl, blk_free hX 0, blk_free hX 1, blk_free hX 2⟩, ⟨hX, _, rfl, hv, hc, hk⟩⟩⟩
  have HW1 := As.mk hW1
  have HK1 := As.mk k1
  have HS1 := As.mk hs1
  clear hWA hW1 hsA hs1 kA kB k1 hbA hm1 hask hP1 h hbp hbs hpm hp ha ok aok hlt
  go_enter Tryz.func31, Tryz.ntmps31
  go_wp2_with (go_at_call 48; (try rw [← HW1.out]); refine HSN.out.mono ?_; rintro e w2 ⟨A2, c2, rfl, ⟨m0, m1, m2, g0, g1, g2⟩, HP2⟩)
  have hz := HP2.out.1.set (.int .i64 (cf.id : Int)) (.int .i64 (dest cf s.whom a.shard)) (.slice A2 a.frame.length c2)
  (try simp only [Exit.inBlock, Exit.then])
  refine bodyPost_ret (hz.1.res rfl rfl) rfl ?_
  have hs := HS1.out
  obtain ⟨_, v, ev, hbs, hcs, hk2⟩ := HP2.out
  simp only [Ending.returned.injEq, Value.agg.injEq] at ev
  obtain rfl : v = .slice A2 a.frame.length c2 := by simpa using ev.symm
  refine ⟨_, rfl, hbs.kp hz.2 (by simp) (fun x hx => .inl ?_), ?_, ?_⟩
  · rcases List.mem_append.1 hx with e | e <;> simp [e]
  · have := hcs.kp (U2 := U) hz.2 (by simp) (fun x hx => .inl (by simp [hx]))
    simpa using this
  · exact (HK1.out.trans hk2 (by simp)).trans hz.2 (by simp)
end Go.Proofs.YtdiljpdohmeceaaGreat.co
