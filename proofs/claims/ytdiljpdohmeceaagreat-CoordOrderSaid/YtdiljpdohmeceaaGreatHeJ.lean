/- coord: (*Coord).Hear: an answer, others are missing. -/
import Derived.Test.YtdiljpdohmeceaaGreatHeC
import Derived.Test.YtdiljpdohmeceaaGreatHeI
namespace Go.Proofs.YtdiljpdohmeceaaGreat.co
open Go.RowKit H O opk frame wir

theorem took_find {j : Job} (hj : JobOk j) (h : wkind j = 2) (data : List Int) : (took j data).was = false ∧ (took j data).has = false ∧ (took j data).text = [] := by
  have hk := hj.kind
  have : j.kind = 4 := (wkind_find hj).1 h
  unfold took
  rw [if_neg (by omega), if_neg (by omega), if_neg (by omega)]
  unfold tookF
  split <;> exact ⟨rfl, rfl, rfl⟩
set_option maxHeartbeats 16000000 in
set_option maxRecDepth 100000 in
theorem hear_wait (U : List Nat) (w : World) (L : Lay) (cf : Cfg) (s : Cs) (j : Job) (jr : List Job) (frm : Int) (A : Option Addr) (n c : Nat) (data : List Int) (hC : CoSt U w L cf s) (hj : s.jobs = j :: jr) (hf0 : 0 ≤ frm) (hf7 : frm < 7) (hfew : s.asks.length ≤ 8) (hn : data.length = n) (hr : Rd w A (iv .u8 data)) (hc : n ≤ c) (hw : Wf data) (hm : n ≤ 50000) (i : Nat) (a : Ask) (hi : askIx s.asks (dWRep data).1.ctx = some i) (ha : s.asks[i]? = some a) (hz0 : (dWRep data).2 = 0) (ok : CsOk cf s) (hml : (s.asks.flatMap (·.ms)).length ≤ 1000000) (he : (dWRep data).1.err = 0) (hms0 : a.ms = []) (hte : (took j (dWRep data).1.data).err = 0) (hwt : waits (s.asks.set i { a with answered := true }) = true) (hk1 : j.kind ≠ 4 → s.asks.length ≤ 1) :
    Calls Tryz.prog 17 #[.pointer (some ⟨L.b, 0, none⟩), .agg #[.int .i64 frm, .int .i64 (cf.id : Int), .slice A n c]] w (TickPost U L cf ({ s with asks := s.asks.set i { a with answered := true, ms := (took j (dWRep data).1.data).ms } }, []) w) := by
  have HCS := As.mk hC
  obtain ⟨κ, VS, VW, VJ, VD, MV, AV, l, h⟩ := hC
  have HP := As.mk h
  have hjl := h.jl
  rw [hj] at hjl
  obtain ⟨p0, ps, hjs⟩ : ∃ p ps, L.js = p :: ps := by
    cases e : L.js with
    | nil => rw [e] at hjl; simp at hjl
    | cons p ps => exact ⟨p, ps, rfl⟩
  obtain ⟨qb, qo, qc, rfl, q0⟩ := h.jq.cell (i := 0) (p := p0) (by rw [hjs]; rfl)
  obtain ⟨m, hm1⟩ : ∃ m, L.js.length = m + 1 := ⟨ps.length, by rw [hjs]; rfl⟩
  have hd := h.hd
  rw [hm1] at hd
  rw [Nat.add_zero] at q0
  unfold ptr at q0
  obtain ⟨tv, dv, hp, _, _⟩ := h.ja 0 j p0 (by rw [hj]; rfl) (by rw [hjs]; rfl)
  rw [if_pos rfl, if_pos rfl] at hp
  obtain ⟨na, hna⟩ : ∃ na, s.asks.length = na := ⟨_, rfl⟩
  rw [hna] at hfew
  have hal : L.az.length = na := by rw [h.al, hna]
  have hao := h.aq.1
  rw [hal] at hao
  obtain ⟨AA, cA, rfl, _⟩ := own_rd hao
  have HAQ := As.mk hao
  obtain ⟨W, hW⟩ : ∃ W, W = w.alloc (msgObj frm (cf.id : Int) A n c) := ⟨_, rfl⟩
  have kW : Kp [] w W := by rw [hW]; exact (Kp.refl [] w).alloc _
  have hb : W.heap[w.heap.size]? = some (msgObj frm (cf.id : Int) A n c) := by rw [hW]; exact heap_alloc_new w _
  have m0 : W.cell? ⟨w.heap.size, 0, none⟩ = some (.int .i64 frm) := blk_cell hb 0 rfl
  have m1 : W.cell? ⟨w.heap.size, 1, none⟩ = some (.int .i64 (cf.id : Int)) := blk_cell hb 1 rfl
  have m2 : W.cell? ⟨w.heap.size, 2, none⟩ = some (.slice A n c) := blk_cell hb 2 rfl
  have HMB := As.mk hb
  have b0 := kW.cell (blk_cell hd 0 rfl) (by simp)
  have b5 := kW.cell (blk_cell hd 5 rfl) (by simp)
  have HK := As.mk kW
  have e1 : ((cf.id : Int) != (cf.id : Int)) = false := by simp
  have e2 : decide (frm < 0) = false := decide_eq_false (by omega)
  have e3 : decide (7 ≤ frm) = false := decide_eq_false (by omega)
  have e4 : ((m : Int) + 1 == 0) = false := by simp; omega
  obtain ⟨ctx, hctx⟩ : ∃ x, (dWRep data).1.ctx = x := ⟨_, rfl⟩
  obtain ⟨er, her⟩ : ∃ x, (dWRep data).1.err = x := ⟨_, rfl⟩
  obtain ⟨hint, hhint⟩ : ∃ x, (dWRep data).1.hint = x := ⟨_, rfl⟩
  obtain ⟨dat, hdat⟩ : ∃ x, (dWRep data).1.data = x := ⟨_, rfl⟩
  obtain ⟨z, hz⟩ : ∃ x, (dWRep data).2 = x := ⟨_, rfl⟩
  have HDR : As (∀ wX, Kp [] W wX → Calls Tryz.prog 44 #[.slice A n c] wX fun e w' => ∃ AD nD cD, e = .returned (.tuple #[.agg #[.int .i64 ctx, .int .i64 er, .int .i64 hint, .slice AD nD cD], .int .i64 z]) ∧ As (Own 5 .u8 w' wX.heap.size (.slice AD nD cD) dat ∧ Kp [] wX w')) := ⟨fun wX kX => by
    refine (decodeReply_any A n c data wX hn ((kW.trans kX (by simp)).rd_new hr (by simp)) hc hw (by omega)).mono ?_
    rintro e w' ⟨AD, nD, cD, rfl, o, k⟩
    rw [hctx, her, hhint, hz]
    rw [hdat] at o
    exact ⟨AD, nD, cD, rfl, ⟨o, k⟩⟩⟩
  have HL : As (∀ w2, Kp [] w w2 → w2.cell? ⟨L.b, 5, none⟩ = some (.slice (some ⟨qb, qo, none⟩) (m + 1) qc) ∧ w2.cell? ⟨qb, qo, none⟩ = some (.pointer (some ⟨p0, 0, none⟩)) ∧ w2.cell? ⟨p0, 13, none⟩ = some (.slice AA na cA) ∧ (L.b < w2.heap.size ∧ ¬ L.b = w2.heap.size) ∧ (qb < w2.heap.size ∧ ¬ qb = w2.heap.size) ∧ p0 < w2.heap.size ∧ ¬ p0 = w2.heap.size) := ⟨fun w2 k => by
    have a1 := k.cell (blk_cell hd 5 rfl) (by simp)
    have a2 := k.cell q0 (by simp)
    have a3 := k.cell (blk_cell hp 13 rfl) (by simp)
    have s1 := World.block_lt_of_cell? w2 _ a1
    have s2 := World.block_lt_of_cell? w2 _ a2
    have s3 := World.block_lt_of_cell? w2 _ a3
    simp only at s1 s2 s3
    exact ⟨a1, a2, a3, ⟨s1, by omega⟩, ⟨s2, by omega⟩, s3, by omega⟩⟩
  have HIX : As (∀ r, IdxR (askPr s.asks ctx) na r → ∀ w2 AD nD cD, Kp [] w w2 → Calls Tryz.prog 45 #[.slice AA na cA, .func (.func 46) #[] #[.pointer (some ⟨w2.heap.size, 0, none⟩)]] (w2.alloc (.cells #[.int .i64 ctx, .int .i64 er, .int .i64 hint, .slice AD nD cD] 112)) fun e w' => e = .returned (.int .i64 r) ∧ As (∃ q, w' = (w2.alloc (.cells #[.int .i64 ctx, .int .i64 er, .int .i64 hint, .slice AD nD cD] 112)).drewN q)) := ⟨fun r hr w2 AD nD cD k => by
    refine (asks_index HP.out hal hna hfew k ctx er hint AD nD cD r hr).mono ?_
    rintro e w' ⟨rfl, q, hq⟩
    exact ⟨rfl, ⟨q, hq⟩⟩⟩
  have hna0 : 0 < na := by
    have := (List.getElem?_eq_some_iff.1 ha).1
    omega
  obtain ⟨ga, cA2, e9, _⟩ := own_form hao hna0
  cases e9
  have hi9 : i < na := by rw [← hna]; exact (List.getElem?_eq_some_iff.1 ha).1
  obtain ⟨p, hpz⟩ : ∃ p, L.az[i]? = some p := ⟨_, List.getElem?_eq_getElem (by rw [hal]; exact hi9)⟩
  have hgp : w.cell? ⟨ga, i, none⟩ = some (.pointer (some ⟨p, 0, none⟩)) := by
    rw [hao.cellAt i (by omega)]
    simp [hpz, ptr]
  have hix : IdxR (askPr s.asks ctx) na i := by
    rw [hctx] at hi
    obtain ⟨_, _, _, _, h9⟩ := askIx_some hi
    rwa [hna] at h9
  have HIX2 := As.mk (HIX.out (i : Int) hix)
  have HGP := As.mk (And.intro hpz hgp)
  have HI9 := As.mk ha
  rw [hz] at hz0
  subst hz0
  clear hix HIX hi
  rw [her] at he
  subst he
  obtain ⟨kd, dva, fva, hba, _⟩ := h.aa i a p ha hpz
  have hpl : p < w.heap.size := lt_of_block hba
  have hpm : p ∈ L.all := Lay.mem.2 (by simp [List.mem_of_getElem? hpz])
  have hpp : p0 ≠ p := by
    have e1 := h.sep.az p (List.mem_of_getElem? hpz)
    have e2 := h.sep.js p0 (by rw [hjs]; simp)
    intro e
    rw [← e] at e1
    omega
  have hgm : L.gm = MV.ownBlock := h.mq.2.1.symm
  have hl6 : l.length ≤ 1000000 := by rw [h.mq.2.2.length_eq]; exact hml
  have hjk := ok.jobs j (by rw [hj]; simp)
  have hdd := dWRep_dat data
  rw [hdat] at hdd
  obtain ⟨t, ht⟩ : ∃ t, took j dat = t := ⟨_, rfl⟩
  rw [Nat.add_zero] at hp
  have HP5 : As (∀ w4, Kp [] w w4 → (∃ κ', CoP U (w4.setCell ⟨p, 8, none⟩ (.bool true)) L cf { s with asks := s.asks.set i { a with answered := true } } κ' VS VW (.slice (some ⟨qb, qo, none⟩) L.js.length qc) VD MV (.slice (some ⟨ga, 0, none⟩) na cA) l) ∧ Kp L.all w (w4.setCell ⟨p, 8, none⟩ (.bool true)) ∧ (w4.setCell ⟨p, 8, none⟩ (.bool true)).heap[p0]? = some (jobRun s.ended false false (.slice none 0 0) MV (wkind j) (okind j) cf.id (okey j) tv dv (.slice (some ⟨ga, 0, none⟩) na cA))) := ⟨fun w4 k => by
    have h4 := h.kp (U2 := U) k (by simp) (fun x hx => .inl hx)
    have hA := (h4.aa i a p ha hpz).set8 (List.mem_append.2 (.inl hpm)) true
    have k5 : Kp [p] w4 (w4.setCell ⟨p, 8, none⟩ (.bool true)) := (Kp.refl _ _).setCell (.inl (by simp)) _
    have h5 := h4.ask hpz ha k5 hA rfl
    refine ⟨⟨_, h5⟩, (k.mono (by simp)).trans k5 (fun x hx => .inl (by simp at hx; rw [hx]; exact hpm)), k5.blk (k.blk hp (by simp)) (by simpa using hpp)⟩⟩
  have HTK : As (∀ w4 rb AD nD cD, HearA w W w4 rb ctx 0 hint AD nD cD dat → Calls Tryz.prog 49 #[.pointer (some ⟨p0, 0, none⟩), .slice AD nD cD] (w4.setCell ⟨p, 8, none⟩ (.bool true)) fun e w6 => ∃ AM nM cM, e = .returned (.int .i64 t.err) ∧ w6.cell? ⟨p0, 13, none⟩ = some (.slice (some ⟨ga, 0, none⟩) na cA) ∧ w6.cell? ⟨p0, 5, none⟩ = some (.slice AM nM cM) ∧ As (TkB p0 s.ended MV l (wkind j) (okind j) cf.id (okey j) tv dv (.slice (some ⟨ga, 0, none⟩) na cA) t (w4.setCell ⟨p, 8, none⟩ (.bool true)) w6 (.slice AM nM cM))) := ⟨fun w4 rb AD nD cD X => by
    obtain ⟨⟨κ', h5⟩, k5, hb5⟩ := HP5.out w4 X.kp
    have hln := X.own.len
    have o5 : Own 5 .u8 (w4.setCell ⟨p, 8, none⟩ (.bool true)) w.heap.size (.slice AD nD cD) dat := X.own.kp (S := [p]) ((Kp.refl _ _).setCell (.inl (by simp)) _) (fun g hg => by have := X.own.2 g hg; simp; omega)
    have hr9 : Rd (w4.setCell ⟨p, 8, none⟩ (.bool true)) AD (iv .u8 dat) := (Own.rds (S := []) o5 (by simp)).rd
    have hn9 : AD = none → cD = 0 := by
      obtain ⟨_, _, e9, _, _, _, hn9⟩ := own_rd o5.1
      cases e9
      exact hn9
    refine (takes_any j hjk p0 s.ended MV l cf.id (okey j) tv dv (.slice (some ⟨ga, 0, none⟩) na cA) AD nD cD dat (w4.setCell ⟨p, 8, none⟩ (.bool true)) hb5 h5.mq.1 (fun g hg e => ?_) hl6 hln hr9 hn9 (hdd.2 hw) (by omega)).mono ?_
    · have e1 := h.sep.gm g (by rw [hgm]; exact hg)
      have e2 := h.sep.js p0 (by rw [hjs]; simp)
      rw [e] at e1
      omega
    · rw [ht]
      rintro e w6 T
      obtain ⟨AM, nM, cM, rfl, c1, c2, T2⟩ := T.b
      exact ⟨AM, nM, cM, rfl, c1, c2, ⟨T2⟩⟩⟩
  have HX8 : As (∀ w4, Kp [] w w4 → w4.cell? ⟨p, 8, none⟩ = some (.bool a.answered) ∧ w4.frozen? ⟨p, 8, none⟩ = false) := ⟨fun w4 k => by
    have hb4 := k.blk hba (by simp)
    exact ⟨blk_cell hb4 8 rfl, blk_free hb4 8⟩⟩
  rw [hdat, ht] at hte
  have HCT : As (∀ w4 w6 mv', Kp [] w w4 → TkB p0 s.ended MV l (wkind j) (okind j) cf.id (okey j) tv dv (.slice (some ⟨ga, 0, none⟩) na cA) t (w4.setCell ⟨p, 8, none⟩ (.bool true)) w6 mv' → Calls Tryz.prog 50 #[.slice (some ⟨ga, 0, none⟩) na cA, .func (.func 51) #[] #[]] w6 fun e w' => e = .returned (.bool true) ∧ As (∃ q, w' = w6.drewN q)) := ⟨fun w4 w6 mv' k T => by
    obtain ⟨⟨κ', h5⟩, k5, hb5⟩ := HP5.out w4 k
    refine (asks_wait h5 (by show (s.asks.set i _).length = na; rw [List.length_set]; exact hna) hfew hjs T true hwt).mono ?_
    rintro e w' ⟨rfl, q⟩
    exact ⟨rfl, ⟨q⟩⟩⟩
  rw [hte] at HTK
  have hk4 : wkind j = 2 := by
    apply (wkind_find hjk).2
    apply Classical.byContradiction
    intro h4
    have h1 := hk1 h4
    rw [waits_iff] at hwt
    obtain ⟨k, q1, q2⟩ := hwt
    rw [List.length_set] at q1
    have hi0 : i < s.asks.length := (List.getElem?_eq_some_iff.1 ha).1
    obtain rfl : k = i := by omega
    unfold waitPr at q2
    rw [show (s.asks.set k { a with answered := true })[k]? = some { a with answered := true } by simp [hi0]] at q2
    simp at q2
  have HFI : As (∀ w4 w6 AM nM cM q, Kp [] w w4 → TkB p0 s.ended MV l (wkind j) (okind j) cf.id (okey j) tv dv (.slice (some ⟨ga, 0, none⟩) na cA) t (w4.setCell ⟨p, 8, none⟩ (.bool true)) w6 (.slice AM nM cM) → TickPost U L cf ({ s with asks := s.asks.set i { a with answered := true, ms := t.ms } }, []) w (.returned (.slice none 0 0)) (w6.drewN q)) := ⟨fun w4 w6 AM nM cM q k T => by
    obtain ⟨⟨κ', h5⟩, k5, hb5⟩ := HP5.out w4 k
    obtain ⟨was, has, tv2, text, ms, q1, q2, q3, q4, q5, q6, q7⟩ := T
    obtain ⟨rfl, rfl, rfl⟩ := q7 hk4
    obtain ⟨_, _, _, rfl⟩ := q6 hte
    unfold jobRun at hb5 q1
    obtain ⟨L', r1, r2, r3⟩ := h5.took hjs (show (s.asks.set i { a with answered := true })[i]? = some { a with answered := true } by simp [(List.getElem?_eq_some_iff.1 ha).1]) hms0 q5 hb5 q1 q3 q4
    have hset : (s.asks.set i { a with answered := true }).set i { a with answered := true, ms := t.ms } = s.asks.set i { a with answered := true, ms := t.ms } := List.set_set ..
    have r1' : CoSt U w6 L' cf { s with asks := (s.asks.set i { a with answered := true }).set i { a with answered := true, ms := t.ms } } := r1
    rw [hset] at r1'
    have k6 : Kp L.all w w6 := k5.trans q5 (fun x hx => .inl (by
      rcases List.mem_cons.1 hx with e | e
      · rw [e]; exact Lay.mem.2 (by simp [hjs])
      · exact Lay.mem.2 (by rw [hgm]; have : MV.ownBlock = some x := by simpa using e
                            simp [this])))
    exact ⟨L', _, rfl, r1'.drewN q, OutI.nil _ _, ⟨r2.1, fun x hx => (r2.2 x hx).imp id (fun e => Nat.le_trans k5.size e)⟩, k6.drewN q⟩⟩
  rw [hdat, ht]
  have i0 : decide ((i : Int) < 0) = false := decide_eq_false (by omega)
  have i1 : (0 : Int) ≤ (i : Int) := by omega
  have i2 : (i : Int) < (na : Int) := by omega
  clear h hd hal hao hb hn hr hc hw hm hctx her hhint hdat hjl hm1 kW q0 hna HAQ ha hpz hgp hba hpm hl6 hjk hdd ht hml
 
  clear hgm hj hjs hte hwt ok hms0 hk1 hk4
  unfold msgObj at hW
  go_enter Tryz.func17, Tryz.ntmps17
  go_upto_region 1 with fail
  rw [← hW]
  clear hW
  go_quiet (fail)
  go_wp2_with (first
    | (go_at_call 44; refine (HDR.out _ ((Kp.refl [] W).drewN _)).mono ?_; rintro e w2 ⟨AD, nD, cD, rfl, HD⟩; have HK2 : As (Kp [] w w2) := ⟨(HK.out.drewN _).trans HD.out.2 (by simp)⟩; obtain ⟨z1, z2, z3, ⟨z4, z5⟩, ⟨z6, z7⟩, z8, z9⟩ := HL.out w2 HK2.out; have HI2 := As.mk (HIX2.out w2 AD nD cD HK2.out); have np1 : ¬ p = w2.heap.size := (by have := HK2.out.size; omega); have np2 : ¬ w2.heap.size = p := (by have := HK2.out.size; omega); clear HDR HL HIX2)
    | (go_at_call 45; refine HI2.out.mono ?_; rintro e w4 ⟨rfl, HQ⟩; have HH4 := As.mk (HearA.mk2 HK2.out (((Kp.refl [] W).drewN _).trans HD.out.2 (by simp)) HD.out.1 HQ.out (HK.out.size)); have y13 := HH4.out.kp.cell (blk_cell hp 13 rfl) (by simp); have yga := HH4.out.kp.cell HGP.out.2 (by simp); have r1 := blk_cell HH4.out.blk 1 rfl; have r2 := blk_cell HH4.out.blk 2 rfl; have r3 := blk_cell HH4.out.blk 3 rfl; obtain ⟨x8, f8⟩ := HX8.out w4 HH4.out.kp; have HT4 := As.mk (HTK.out w4 _ _ _ _ HH4.out); clear HTK; clear HI2)
    | (go_at_call 49; refine HT4.out.mono ?_; rintro e w6 ⟨AM, nM, cM, rfl, u13, u5, HTB⟩; have HC6 := As.mk (HCT.out w4 w6 _ HH4.out.kp HTB.out); clear HCT; clear HT4)
    | (go_at_call 50; refine HC6.out.mono ?_; rintro e w7 ⟨rfl, HQ7⟩; clear HC6))
  go_ret
  obtain ⟨q, rfl⟩ := HQ7.out
  exact HFI.out w4 w6 AM nM cM q HH4.out.kp HTB.out
end Go.Proofs.YtdiljpdohmeceaaGreat.co
