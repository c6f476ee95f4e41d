/- coord: (*Coord).Hear: a hint that is taken. -/
import Derived.Test.YtdiljpdohmeceaaGreatHeC
import Derived.Test.YtdiljpdohmeceaaGreatHeF
import Derived.Deep.CutRange
namespace Go.Proofs.YtdiljpdohmeceaaGreat.co
open Go.RowKit H O opk frame wir

theorem own_lit {w : World} {T : TypeId} (vs : List Value) (k : Nat) (hk : vs.length = 1 * k) : (w.alloc (.cells vs.toArray T)).ownsRow 0 T k (.slice (some ⟨w.heap.size, 0, none⟩) 1 1) 1 vs :=
  ⟨hk, .inr ⟨w.heap.size, 1, vs.toArray, rfl, Nat.zero_le _, heap_alloc_new w _, Nat.le_refl _, by decide, by simpa using hk, by rw [← hk]; simp⟩⟩
theorem CsOk.hint {cf : Cfg} {s : Cs} (h : CsOk cf s) {i : Nat} {a : Ask} (ha : s.asks[i]? = some a) {at_ : Nat} (hat : at_ < (cf.shards.getD a.shard []).length) : CsOk cf { s with whom := s.whom.set a.shard at_, asks := s.asks.set i { a with hinted := true } } := by
  have aok := h.asks a (List.mem_of_getElem? ha)
  have h2 := h.ask i (a := { a with hinted := true }) ⟨aok.shard, aok.ctx, aok.frame, aok.tried, aok.waited⟩
  refine ⟨h2.cfg, by show (s.whom.set a.shard at_).length = _; rw [List.length_set]; exact h2.wlen, fun k hk hk2 => ?_, h2.jobs, h2.asks, h2.none, h2.few⟩
  have hk : k < (s.whom.set a.shard at_).length := hk
  show (s.whom.set a.shard at_)[k] < _
  rw [List.getElem_set]
  split
  · rename_i e
    subst e
    simpa [List.getD, hk2] using hat
  · exact h.whom k (by rw [List.length_set] at hk; exact hk) hk2
set_option maxHeartbeats 16000000 in
set_option maxRecDepth 100000 in
theorem hear_hint (U : List Nat) (w : World) (L : Lay) (cf : Cfg) (s : Cs) (j : Job) (jr : List Job) (frm : Int) (A : Option Addr) (n c : Nat) (data : List Int) (hC : CoSt U w L cf s) (hj : s.jobs = j :: jr) (hf0 : 0 ≤ frm) (hf7 : frm < 7) (hfew : s.asks.length ≤ 8) (hn : data.length = n) (hr : Rd w A (iv .u8 data)) (hc : n ≤ c) (hw : Wf data) (hm : n ≤ 50000) (i : Nat) (a : Ask) (hi : askIx s.asks (dWRep data).1.ctx = some i) (ha : s.asks[i]? = some a) (hz0 : (dWRep data).2 = 0) (ok : CsOk cf s) (at_ : Nat) (he : (dWRep data).1.err = 11) (hat : nodeIx cf a.shard (dWRep data).1.hint = some at_) (hnf : (dWRep data).1.hint ≠ frm) (hnh : a.hinted = false) :
    Calls Tryz.prog 17 #[.pointer (some ⟨L.b, 0, none⟩), .agg #[.int .i64 frm, .int .i64 (cf.id : Int), .slice A n c]] w (TickPost U L cf ({ s with whom := s.whom.set a.shard at_, asks := s.asks.set i { a with waited := 0, hinted := true } }, [msgOf cf (s.whom.set a.shard at_) a]) w) := by
  have HCS := As.mk hC
  obtain ⟨κ, VS, VW, VJ, VD, MV, AV, l, h⟩ := hC
  have HP := As.mk h
  have hjl := h.jl
  rw [hj] at hjl
  obtain ⟨p0, ps, hjs⟩ : ∃ p ps, L.js = p :: ps := by
    cases e : L.js with
    | nil => rw [e] at hjl; simp at hjl
    | cons p ps => exact ⟨p, ps, rfl⟩
  obtain ⟨qb, qo, qc, rfl, q0⟩ := h.jq.cell (i := 0) (p := p0) (by rw [hjs]; rfl)
  obtain ⟨m, hm1⟩ : ∃ m, L.js.length = m + 1 := ⟨ps.length, by rw [hjs]; rfl⟩
  have hd := h.hd
  rw [hm1] at hd
  rw [Nat.add_zero] at q0
  unfold ptr at q0
  obtain ⟨tv, dv, hp, _, _⟩ := h.ja 0 j p0 (by rw [hj]; rfl) (by rw [hjs]; rfl)
  rw [if_pos rfl, if_pos rfl] at hp
  obtain ⟨na, hna⟩ : ∃ na, s.asks.length = na := ⟨_, rfl⟩
  rw [hna] at hfew
  have hal : L.az.length = na := by rw [h.al, hna]
  have hao := h.aq.1
  rw [hal] at hao
  obtain ⟨AA, cA, rfl, _⟩ := own_rd hao
  have HAQ := As.mk hao
  obtain ⟨W, hW⟩ : ∃ W, W = w.alloc (msgObj frm (cf.id : Int) A n c) := ⟨_, rfl⟩
  have kW : Kp [] w W := by rw [hW]; exact (Kp.refl [] w).alloc _
  have hb : W.heap[w.heap.size]? = some (msgObj frm (cf.id : Int) A n c) := by rw [hW]; exact heap_alloc_new w _
  have m0 : W.cell? ⟨w.heap.size, 0, none⟩ = some (.int .i64 frm) := blk_cell hb 0 rfl
  have m1 : W.cell? ⟨w.heap.size, 1, none⟩ = some (.int .i64 (cf.id : Int)) := blk_cell hb 1 rfl
  have m2 : W.cell? ⟨w.heap.size, 2, none⟩ = some (.slice A n c) := blk_cell hb 2 rfl
  have HMB := As.mk hb
  have b0 := kW.cell (blk_cell hd 0 rfl) (by simp)
  have b5 := kW.cell (blk_cell hd 5 rfl) (by simp)
  have HK := As.mk kW
  have e1 : ((cf.id : Int) != (cf.id : Int)) = false := by simp
  have e2 : decide (frm < 0) = false := decide_eq_false (by omega)
  have e3 : decide (7 ≤ frm) = false := decide_eq_false (by omega)
  have e4 : ((m : Int) + 1 == 0) = false := by simp; omega
  obtain ⟨ctx, hctx⟩ : ∃ x, (dWRep data).1.ctx = x := ⟨_, rfl⟩
  obtain ⟨er, her⟩ : ∃ x, (dWRep data).1.err = x := ⟨_, rfl⟩
  obtain ⟨hint, hhint⟩ : ∃ x, (dWRep data).1.hint = x := ⟨_, rfl⟩
  obtain ⟨dat, hdat⟩ : ∃ x, (dWRep data).1.data = x := ⟨_, rfl⟩
  obtain ⟨z, hz⟩ : ∃ x, (dWRep data).2 = x := ⟨_, rfl⟩
  have HDR : As (∀ wX, Kp [] W wX → Calls Tryz.prog 44 #[.slice A n c] wX fun e w' => ∃ AD nD cD, e = .returned (.tuple #[.agg #[.int .i64 ctx, .int .i64 er, .int .i64 hint, .slice AD nD cD], .int .i64 z]) ∧ As (Own 5 .u8 w' wX.heap.size (.slice AD nD cD) dat ∧ Kp [] wX w')) := ⟨fun wX kX => by
    refine (decodeReply_any A n c data wX hn ((kW.trans kX (by simp)).rd_new hr (by simp)) hc hw (by omega)).mono ?_
    rintro e w' ⟨AD, nD, cD, rfl, o, k⟩
    rw [hctx, her, hhint, hz]
    rw [hdat] at o
    exact ⟨AD, nD, cD, rfl, ⟨o, k⟩⟩⟩
  have HL : As (∀ w2, Kp [] w w2 → w2.cell? ⟨L.b, 5, none⟩ = some (.slice (some ⟨qb, qo, none⟩) (m + 1) qc) ∧ w2.cell? ⟨qb, qo, none⟩ = some (.pointer (some ⟨p0, 0, none⟩)) ∧ w2.cell? ⟨p0, 13, none⟩ = some (.slice AA na cA) ∧ (L.b < w2.heap.size ∧ ¬ L.b = w2.heap.size) ∧ (qb < w2.heap.size ∧ ¬ qb = w2.heap.size) ∧ p0 < w2.heap.size ∧ ¬ p0 = w2.heap.size) := ⟨fun w2 k => by
    have a1 := k.cell (blk_cell hd 5 rfl) (by simp)
    have a2 := k.cell q0 (by simp)
    have a3 := k.cell (blk_cell hp 13 rfl) (by simp)
    have s1 := World.block_lt_of_cell? w2 _ a1
    have s2 := World.block_lt_of_cell? w2 _ a2
    have s3 := World.block_lt_of_cell? w2 _ a3
    simp only at s1 s2 s3
    exact ⟨a1, a2, a3, ⟨s1, by omega⟩, ⟨s2, by omega⟩, s3, by omega⟩⟩
  have HIX : As (∀ r, IdxR (askPr s.asks ctx) na r → ∀ w2 AD nD cD, Kp [] w w2 → Calls Tryz.prog 45 #[.slice AA na cA, .func (.func 46) #[] #[.pointer (some ⟨w2.heap.size, 0, none⟩)]] (w2.alloc (.cells #[.int .i64 ctx, .int .i64 er, .int .i64 hint, .slice AD nD cD] 112)) fun e w' => e = .returned (.int .i64 r) ∧ As (∃ q, w' = (w2.alloc (.cells #[.int .i64 ctx, .int .i64 er, .int .i64 hint, .slice AD nD cD] 112)).drewN q)) := ⟨fun r hr w2 AD nD cD k => by
    refine (asks_index HP.out hal hna hfew k ctx er hint AD nD cD r hr).mono ?_
    rintro e w' ⟨rfl, q, hq⟩
    exact ⟨rfl, ⟨q, hq⟩⟩⟩
  have hna0 : 0 < na := by
    have := (List.getElem?_eq_some_iff.1 ha).1
    omega
  obtain ⟨ga, cA2, e9, _⟩ := own_form hao hna0
  cases e9
  have hi9 : i < na := by rw [← hna]; exact (List.getElem?_eq_some_iff.1 ha).1
  obtain ⟨p, hpz⟩ : ∃ p, L.az[i]? = some p := ⟨_, List.getElem?_eq_getElem (by rw [hal]; exact hi9)⟩
  have hgp : w.cell? ⟨ga, i, none⟩ = some (.pointer (some ⟨p, 0, none⟩)) := by
    rw [hao.cellAt i (by omega)]
    simp [hpz, ptr]
  have hix : IdxR (askPr s.asks ctx) na i := by
    rw [hctx] at hi
    obtain ⟨_, _, _, _, h9⟩ := askIx_some hi
    rwa [hna] at h9
  have HIX2 := As.mk (HIX.out (i : Int) hix)
  have HGP := As.mk (And.intro hpz hgp)
  have HI9 := As.mk ha
  rw [hz] at hz0
  subst hz0
  clear hix HIX hi
  have aok := ok.asks a (List.mem_of_getElem? ha)
  obtain ⟨bS, oS, cS, Ab, Ao, nj, cj, cw, wi, rfl, hbS, s0, hAb, rfl, w1', fw1, e2', hlt2, h7', e7, s2⟩ := h.dest ok aok.shard
  obtain ⟨kd, dva, fva, hba, _⟩ := h.aa i a p ha hpz
  have HC3 : As (∀ w4, Kp [] w w4 → w4.cell? ⟨L.b, 3, none⟩ = some (.slice (some ⟨bS, oS, none⟩) cf.shards.length cS) ∧ w4.cell? ⟨L.b, 4, none⟩ = some (.slice (some ⟨L.gw, 0, none⟩) s.whom.length cw) ∧ w4.cell? ⟨p, 2, none⟩ = some (.int .i64 (a.shard : Int)) ∧ w4.cell? ⟨p, 7, none⟩ = some (.bool a.hinted) ∧ w4.frozen? ⟨p, 7, none⟩ = false ∧ w4.cell? ⟨bS, oS + a.shard, none⟩ = some (.slice (some ⟨Ab, Ao, none⟩) nj cj) ∧ w4.cell? ⟨L.gw, a.shard, none⟩ = some (.int .i64 (wi : Int)) ∧ w4.frozen? ⟨L.gw, a.shard, none⟩ = false) := ⟨fun w4 k => by
    have hb4 := k.blk hba (by simp)
    have ho4 := k.own h.wh.1 (by simp)
    refine ⟨k.cell (blk_cell hd 3 rfl) (by simp), k.cell (blk_cell hd 4 rfl) (by simp), blk_cell hb4 2 rfl, blk_cell hb4 7 rfl, blk_free hb4 7, k.cell s0 (by simp), k.cell w1' (by simp), ?_⟩
    exact ho4.frozenAt a.shard⟩
  have HIN : As (∀ r, IdxR (fun i => decide (hint = (cf.shards.getD a.shard []).getD i 0)) nj r → ∀ wX, Kp [] w wX → Calls Tryz.prog 47 #[.slice (some ⟨Ab, Ao, none⟩) nj cj, .int .i64 hint] wX fun e w' => e = .returned (.int .i64 r) ∧ w' = wX) := ⟨fun r hr wX k => by
    refine index_any _ nj cj (cf.shards.getD a.shard []) hint r wX e7 (by omega) (fun jj v hv => ?_) hr
    have hjj : jj < nj := by
      have := (List.getElem?_eq_some_iff.1 hv).1
      rw [iv_len, e7] at this
      exact this
    refine ⟨_, rfl, ?_⟩
    rw [Addr.add_lit, k.cell (s2 jj hjj) (by simp)]
    rw [← hv, iv_get _ _ _ (by rw [e7]; exact hjj)]
    have hgd : ∀ (l : List Int) (h : jj < l.length), l.getD jj 0 = l[jj] := fun l h => by simp [List.getD, h]
    rw [hgd _ (by rw [e7]; exact hjj)]⟩
  have t0 : (0 : Int) ≤ (a.shard : Int) := by omega
  have t1 : (a.shard : Int) < (cf.shards.length : Int) := by have := aok.shard; omega
  have t2 : (a.shard : Int) < (s.whom.length : Int) := by have := aok.shard; have := ok.wlen; omega
  rw [her] at he
  rw [hhint] at hat hnf
  obtain ⟨hat1, hat2⟩ := nodeIx_some hat
  rw [e7] at hat2
  have HINR := As.mk (HIN.out (at_ : Int) hat2)
  have k0 : decide ((at_ : Int) < 0) = false := decide_eq_false (by omega)
  have kk : (hint == frm) = false := by simpa using hnf
  obtain ⟨fl, hfl⟩ : ∃ k, a.frame.length = k := ⟨_, rfl⟩
  obtain ⟨dd, hdd⟩ : ∃ k, dest cf (s.whom.set a.shard at_) a.shard = k := ⟨_, rfl⟩
  have hil := (List.getElem?_eq_some_iff.1 ha).1
  have HSN : As (∀ w4 q, Kp [] w w4 → Calls Tryz.prog 48 #[.pointer (some ⟨L.b, 0, none⟩), .pointer (some ⟨p, 0, none⟩)] (((w4.drewN q).setCell ⟨L.gw, a.shard, none⟩ (.int .i64 (at_ : Int))).setCell ⟨p, 7, none⟩ (.bool true)) fun e w6 => ∃ A6 c6, e = .returned (.agg #[.int .i64 (cf.id : Int), .int .i64 dd, .slice A6 fl c6]) ∧
      As (BSl (L.all ++ U) w6 (.slice A6 fl c6) a.frame ∧ CoSt U w6 L cf { s with whom := s.whom.set a.shard at_, asks := s.asks.set i { a with waited := 0, hinted := true } } ∧ Kp L.all w w6)) := ⟨fun w4 q k => by
    obtain ⟨q1, q2⟩ := HP.out.hint k ok hpz ha at_ q
    refine (sends_any U _ L cf _ i p { a with hinted := true } q1 (ok.hint ha hat1) hpz (by show (s.asks.set i _)[i]? = _; simp [hil])).mono ?_
    rintro e w6 ⟨v, rfl, hb6, hc6, hk6⟩
    obtain ⟨A6, c6, rfl, hb7⟩ := id hb6
    have hset : (s.asks.set i { a with hinted := true }).set i { a with waited := 0, hinted := true } = s.asks.set i { a with waited := 0, hinted := true } := List.set_set ..
    have hc6' : CoSt U w6 L cf { s with whom := s.whom.set a.shard at_, asks := (s.asks.set i { a with hinted := true }).set i { a with waited := 0, hinted := true } } := hc6
    rw [hset] at hc6'
    have hb6' : BSl (L.all ++ U) w6 (.slice A6 a.frame.length c6) a.frame := hb6
    rw [hfl] at hb6'
    exact ⟨A6, c6, by rw [← hdd, ← hfl], ⟨hb6', hc6', q2.trans hk6 (fun x hx => .inl (by simp at hx; rw [hx]; exact Lay.mem.2 (by simp [List.mem_of_getElem? hpz])))⟩⟩⟩
  have HDD := As.mk (And.intro hdd hfl)
  have hgp1 : ¬ L.gw = p := by
    have e1 := h.sep.az p (List.mem_of_getElem? hpz)
    have e2 := h.sep.gw
    intro e
    rw [← e] at e1
    omega
  have hgp2 : ¬ p = L.gw := fun e => hgp1 e.symm
  have HLT := As.mk (HCS.out.lt)
  rw [hnh] at HC3
  have i0 : decide ((i : Int) < 0) = false := decide_eq_false (by omega)
  have i1 : (0 : Int) ≤ (i : Int) := by omega
  have i2 : (i : Int) < (na : Int) := by omega
  clear h hd hal hao hb hn hr hc hw hm hctx her hhint hdat hjl hm1 kW q0 hj hjs hna HAQ ha hpz hgp aok s0 hbS hAb w1' fw1 e2' hlt2 h7' e7 s2 hba hat hat1 hat2 hnf hnh hdd hfl hil ok
  clear HIN
  subst he
  unfold msgObj at hW
  go_enter Tryz.func17, Tryz.ntmps17
  go_upto_region 1 with fail
  rw [← hW]
  clear hW
  go_quiet (fail)
  go_upto_region 18 with (first
    | (go_at_call 44; refine (HDR.out _ ((Kp.refl [] W).drewN _)).mono ?_; rintro e w2 ⟨AD, nD, cD, rfl, HD⟩; have HK2 : As (Kp [] w w2) := ⟨(HK.out.drewN _).trans HD.out.2 (by simp)⟩; obtain ⟨z1, z2, z3, ⟨z4, z5⟩, ⟨z6, z7⟩, z8, z9⟩ := HL.out w2 HK2.out; have HI2 := As.mk (HIX2.out w2 AD nD cD HK2.out); clear HDR HL HIX2)
    | (go_at_call 45; refine HI2.out.mono ?_; rintro e w4 ⟨rfl, HQ⟩; have HH4 := As.mk (HearA.mk2 HK2.out (((Kp.refl [] W).drewN _).trans HD.out.2 (by simp)) HD.out.1 HQ.out (HK.out.size)); have y13 := HH4.out.kp.cell (blk_cell hp 13 rfl) (by simp); have yga := HH4.out.kp.cell HGP.out.2 (by simp); have r1 := blk_cell HH4.out.blk 1 rfl; have r2 := blk_cell HH4.out.blk 2 rfl; have r3 := blk_cell HH4.out.blk 3 rfl; obtain ⟨g3, g4, g5, g6, g7, g8, g9, g10⟩ := HC3.out w4 HH4.out.kp; have mm0 := HH4.out.kp2.cell m0 (by simp); clear HI2))
  go_quiet ((go_at_call 47; refine Calls.quiet_of_same (HINR.out _ (by first | exact HH4.out.kp | exact HH4.out.kp.drewN _))))
  go_upto_region 21 with fail
  go_cut [] from 120 to 133 (fun wx => ∃ q : Nat, wx = ((w4.drewN q).setCell ⟨L.gw, a.shard, none⟩ (.int .i64 (at_ : Int))).setCell ⟨p, 7, none⟩ (.bool true))
  case first =>
    go_region
    all_goals
      go_wp2_with fail
      go_meet
      exact ⟨_, rfl⟩
  case rest =>
    obtain ⟨q, rfl⟩ := hcut
    have HS6 := As.mk (HSN.out w4 q HH4.out.kp)
    clear HSN
    go_wp2_with (go_at_call 48; refine HS6.out.mono ?_; rintro e w6 ⟨A6, c6, rfl, HF6⟩; clear HS6)
    go_ret
    obtain ⟨hb6, hc6, hk6⟩ := HF6.out
    have hA : Kp [] w6 (w6.alloc (.cells #[.int .i64 (cf.id : Int), .int .i64 dd, .slice A6 fl c6] 44)) := (Kp.refl [] w6).alloc _
    have hs6 := hk6.size
    refine ⟨L, _, rfl, hc6.kp hA (by simp) (fun x hx => .inl hx), ⟨[.int .i64 (cf.id : Int), .int .i64 dd, .slice A6 fl c6], own_lit [.int .i64 (cf.id : Int), .int .i64 dd, .slice A6 fl c6] 3 rfl, fun g hg hm => ?_, ?_⟩, Grew.refl _ _, hk6.trans hA (by simp)⟩
    · have : g = w6.heap.size := by simpa [Value.ownBlock] using hg.symm
      have := HLT.out g hm
      omega
    · have e1 : msgOf cf (s.whom.set a.shard at_) a = ⟨cf.id, dd, a.frame⟩ := by rw [← HDD.out.1]; rfl
      rw [e1]
      refine MsOk.snoc (l := []) (vs := []) (hb6.kp hA (by simp) (fun x hx => ?_)) rfl
      simp only [List.mem_append, Option.mem_toList] at hx
      rcases hx with e | e | e
      · right
        have : x = w6.heap.size := by simpa [Value.ownBlock] using e.symm
        omega
      · exact .inl (List.mem_append.2 (.inl e))
      · exact .inl (List.mem_append.2 (.inr e))
end Go.Proofs.YtdiljpdohmeceaaGreat.co
