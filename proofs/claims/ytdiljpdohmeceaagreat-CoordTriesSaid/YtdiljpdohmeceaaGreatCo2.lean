/- coord: (*Coord).Tick where a job runs. -/
import Derived.Test.YtdiljpdohmeceaaGreatCo1
namespace Go.Proofs.YtdiljpdohmeceaaGreat.co
open Go.RowKit H O opk frame wir

/-- no ask has waited as long as it may -/
def Wt (cf : Cfg) (az : List Ask) : Prop := ∀ a ∈ az, a.waited < cf.pat
theorem Wt.set {cf : Cfg} {az : List Ask} (h : Wt cf az) (k : Nat) {a : Ask} (ha : a.waited < cf.pat) : Wt cf (az.set k a) := by
  intro x hx
  rcases List.mem_or_eq_of_mem_set hx with e | e
  · exact h x e
  · rw [e]; exact ha
theorem tkGo_step (cf : Cfg) (f k : Nat) (wh : List Nat) (az : List Ask) (out : List Msg) (a : Ask) (h : az[k]? = some a) : tkGo cf (f + 1) k wh az out =
    if a.answered = true then tkGo cf f (k + 1) wh az out
    else if a.waited + 1 < cf.pat then tkGo cf f (k + 1) wh (az.set k { a with waited := a.waited + 1 }) out
    else if cf.tries ≤ a.tried then (wh, az.set k { a with waited := a.waited + 1 }, out, true)
    else tkGo cf f (k + 1) (nextW cf wh a.shard) (az.set k { a with waited := 0, tried := a.tried + 1, hinted := false }) (out ++ [msgOf cf (nextW cf wh a.shard) a]) := by
  rw [tkGo, h]

theorem AskAt.set5 {S : List Nat} {w : World} {p : Nat} {a : Ask} (h : AskAt S w p a) (hp : p ∈ S) (n : Nat) : AskAt S (w.setCell ⟨p, 5, none⟩ (.int .i64 (n : Int))) p { a with waited := n } := by
  obtain ⟨kd, dv, fv, h1, h2⟩ := h
  have k : Kp [p] w (w.setCell ⟨p, 5, none⟩ (.int .i64 (n : Int))) := (Kp.refl _ w).setCell (.inl (by simp)) _
  exact ⟨kd, dv, fv, heap_setCell_same w p 5 _ _ _ h1, h2.kp k (by intro x hx; simp at hx; subst hx; exact .inl hp) (fun x hx => .inl hx)⟩
theorem AskAt.set7 {S : List Nat} {w : World} {p : Nat} {a : Ask} (h : AskAt S w p a) (hp : p ∈ S) (b : Bool) : AskAt S (w.setCell ⟨p, 7, none⟩ (.bool b)) p { a with hinted := b } := by
  obtain ⟨kd, dv, fv, h1, h2⟩ := h
  have k : Kp [p] w (w.setCell ⟨p, 7, none⟩ (.bool b)) := (Kp.refl _ w).setCell (.inl (by simp)) _
  exact ⟨kd, dv, fv, heap_setCell_same w p 7 _ _ _ h1, h2.kp k (by intro x hx; simp at hx; subst hx; exact .inl hp) (fun x hx => .inl hx)⟩
theorem AskAt.cells {S : List Nat} {w : World} {p : Nat} {a : Ask} (h : AskAt S w p a) : p < w.heap.size ∧ w.cell? ⟨p, 1, none⟩ = some (.int .i64 (a.ctx : Int)) ∧ w.cell? ⟨p, 2, none⟩ = some (.int .i64 (a.shard : Int)) ∧ w.cell? ⟨p, 5, none⟩ = some (.int .i64 (a.waited : Int)) ∧ w.cell? ⟨p, 6, none⟩ = some (.int .i64 (a.tried : Int)) ∧ w.cell? ⟨p, 7, none⟩ = some (.bool a.hinted) ∧ w.cell? ⟨p, 8, none⟩ = some (.bool a.answered) ∧
    ∀ j, w.frozen? ⟨p, j, none⟩ = false := by
  obtain ⟨kd, dv, fv, h1, h2⟩ := h
  exact ⟨lt_of_block h1, blk_cell h1 1 rfl, blk_cell h1 2 rfl, blk_cell h1 5 rfl, blk_cell h1 6 rfl, blk_cell h1 7 rfl, blk_cell h1 8 rfl, blk_free h1⟩
theorem CoSt.askAt {U : List Nat} {w : World} {L : Lay} {cf : Cfg} {s : Cs} (h : CoSt U w L cf s) {k p : Nat} {a : Ask} (hp : L.az[k]? = some p) (ha : s.asks[k]? = some a) : AskAt (L.all ++ U) w p a := by
  obtain ⟨κ, VS, VW, VJ, VD, MV, AV, l, h⟩ := h
  exact h.aa k a p ha hp
theorem CoSt.askSet {U : List Nat} {w w1 : World} {L : Lay} {cf : Cfg} {s : Cs} (h : CoSt U w L cf s) {k p : Nat} {a a' : Ask} (hp : L.az[k]? = some p) (ha : s.asks[k]? = some a) (hk : Kp [p] w w1) (hn : AskAt (L.all ++ U) w1 p a') (hms : a'.ms = a.ms) : CoSt U w1 L cf { s with asks := s.asks.set k a' } := by
  obtain ⟨κ, VS, VW, VJ, VD, MV, AV, l, h⟩ := h
  exact ⟨_, _, _, _, _, _, _, _, h.ask hp ha hk hn hms⟩
theorem CoSt.azp {U : List Nat} {w : World} {L : Lay} {cf : Cfg} {s : Cs} (h : CoSt U w L cf s) {k : Nat} (hk : k < s.asks.length) : ∃ p, L.az[k]? = some p ∧ p ∈ L.all := by
  obtain ⟨κ, VS, VW, VJ, VD, MV, AV, l, h⟩ := h
  have h1 := h.al
  have hl : k < L.az.length := by omega
  exact ⟨_, List.getElem?_eq_getElem hl, Lay.mem.2 (by simp [List.getElem_mem hl])⟩
theorem CoSt.drewN {U : List Nat} {w : World} {L : Lay} {cf : Cfg} {s : Cs} (h : CoSt U w L cf s) (q : Nat) : CoSt U (w.drewN q) L cf s := h.kp ((Kp.refl [] w).drewN q) (by simp) (fun x hx => .inl hx)

/-- inside the loop -/
structure TkI (U : List Nat) (L : Lay) (cf : Cfg) (s : Cs) (w : World) (n k : Nat) (wh : List Nat) (az : List Ask) (ms : List Msg) (v : Value) (wr : World) : Prop where
  ok : CsOk cf { s with whom := wh, asks := az }
  wt : Wt cf az
  len : az.length = n
  st : CoSt (v.ownBlock.toList ++ U) wr L cf { s with whom := wh, asks := az }
  out : OutI (L.all ++ U) wr v ms
  kp : Kp L.all w wr
  own : ∀ g, v.ownBlock = some g → w.heap.size ≤ g
  few : ms.length ≤ k
  go : tkGo cf (n - k) k wh az ms = tkGo cf n 0 s.whom s.asks []

/-- an ask has waited once more -/
theorem TkI.wait {U : List Nat} {L : Lay} {cf : Cfg} {s : Cs} {w : World} {n k : Nat} {wh : List Nat} {az : List Ask} {ms : List Msg} {v : Value} {wr : World} (h : TkI U L cf s w n k wh az ms v wr) {p : Nat} {a : Ask} (hpk : L.az[k]? = some p) (hpm : p ∈ L.all) (haz : az[k]? = some a) {wX : World}
    (kX : Kp [] (wr.setCell ⟨p, 5, none⟩ (.int .i64 ((a.waited : Int) + 1))) wX) :
    CoSt (v.ownBlock.toList ++ U) wX L cf { s with whom := wh, asks := az.set k { a with waited := a.waited + 1 } } ∧ OutI (L.all ++ U) wX v ms ∧ Kp L.all w wX ∧ CsOk cf { s with whom := wh, asks := az.set k { a with waited := a.waited + 1 } } ∧ Kp [p] wr wX := by
  have k1 : Kp [p] wr (wr.setCell ⟨p, 5, none⟩ (.int .i64 ((a.waited : Int) + 1))) := (Kp.refl _ wr).setCell (.inl (by simp)) _
  have hA := h.st.askAt hpk haz
  have hA5 := hA.set5 (List.mem_append.2 (.inl hpm)) (a.waited + 1)
  have hwt := h.wt a (List.mem_of_getElem? haz)
  have aok := h.ok.asks a (List.mem_of_getElem? haz)
  have hpat := h.ok.cfg.pat
  have k2 := k1.trans kX (by simp)
  refine ⟨(h.st.askSet hpk haz k1 hA5 rfl).kp kX (by simp) (fun x hx => .inl hx), h.out.kp k2 (fun x hx => ?_) (fun x hx => .inl hx), h.kp.trans k2 (fun x hx => ?_), h.ok.ask k ⟨aok.shard, aok.ctx, aok.frame, aok.tried, by show a.waited + 1 ≤ 1001; omega⟩, k2⟩
  · simp only [List.mem_singleton] at hx
    subst hx
    exact .inl (List.mem_append.2 (.inl hpm))
  · simp only [List.mem_singleton] at hx
    subst hx
    exact .inl hpm

/-- the job's time has run out -/
theorem TkI.ends {U : List Nat} {L : Lay} {cf : Cfg} {s : Cs} {w : World} {n k : Nat} {wh : List Nat} {az : List Ask} {ms : List Msg} {v : Value} {wr : World} (h : TkI U L cf s w n k wh az ms v wr) {p : Nat} {a : Ask} (hpk : L.az[k]? = some p) (hpm : p ∈ L.all) (haz : az[k]? = some a) {wX : World}
    (kX : Kp [] (wr.setCell ⟨p, 5, none⟩ (.int .i64 ((a.waited : Int) + 1))) wX) {j : Job} {r : List Job} {p0 : Nat} {ps : List Nat} (hj : s.jobs = j :: r) (hjs : L.js = p0 :: ps) (hd9 : s.done.length ≤ 1000000) :
    Calls Tryz.prog 32 #[.pointer (some ⟨L.b, 0, none⟩), .int .i64 14] wX fun en w' => en = .returned (.tuple #[]) ∧
      As (∃ L', CoSt U w' L' cf (endErr { s with whom := wh, asks := az.set k { a with waited := a.waited + 1 } } 14) ∧ OutI (L'.all ++ U) w' v ms ∧ Grew w L L' ∧ Kp L.all w w') := by
  obtain ⟨g1, g2, g3, g4, g5⟩ := h.wait hpk hpm haz kX
  obtain ⟨κ, VS, VW, VJ, VD, MV, AV, l, hp⟩ := g1
  obtain ⟨tv, dv, hb, _, _⟩ := hp.ja 0 j p0 (show s.jobs[0]? = some j by rw [hj]; rfl) (by rw [hjs]; rfl)
  rw [if_pos rfl, if_pos rfl] at hb
  have hms : MSl (L.b :: L.gw :: (L.gj.toList ++ L.js) ++ (v.ownBlock.toList ++ U) ++ L.gd.toList) wX MV l := by
    refine MSl.own hp.mq.1 (fun g e hm => ?_)
    rw [hp.mq.2.1] at e
    have h6 := hp.sep.gm g e
    simp only [List.mem_append, List.mem_cons, Option.mem_toList] at hm
    rcases hm with ((e | e | e | e) | e | e) | e
    · have := hp.sep.b; rw [e] at h6; omega
    · have := hp.sep.gw; rw [e] at h6; omega
    · have := hp.sep.gj g e; omega
    · have := hp.sep.js g e; omega
    · have := hp.sep.U g (List.mem_append.2 (.inl (by simp [e]))); omega
    · have := hp.sep.U g (List.mem_append.2 (.inr e)); omega
    · have := hp.sep.gd g e; omega
  refine (ends_any (v.ownBlock.toList ++ U) wX wX L cf _ κ VS VW VJ VD MV AV l j r p0 ps hp hj hjs (Kp.refl _ _) false false (.slice none 0 0) MV _ _ _ _ _ _ _ _ [] l 14 hb (BSl.nil _ _) hms hd9).mono ?_
  rintro en w' ⟨rfl, L', q1, q2, q3, q4⟩
  have e0 : resOf s.ended 14 false false [] l = ⟨s.ended, 14, false, false, [], []⟩ := rfl
  rw [e0] at q1
  refine ⟨rfl, ⟨L', q1.kp (Kp.refl [] w') (by simp) (fun x hx => .inl (List.mem_append.2 (.inr hx))), g2.kp q4 (fun x hx => .inl (List.mem_append.2 (.inl hx))) (fun x hx => ?_), ⟨q2.1, fun x hx => (q2.2 x hx).imp id (fun e => by have := g3.size; omega)⟩, g3.trans q4 (fun x hx => .inl hx)⟩⟩
  rcases List.mem_append.1 hx with e | e
  · exact (q2.2 x e).imp (fun e => List.mem_append.2 (.inl e)) id
  · exact .inl (List.mem_append.2 (.inr e))

/-- the next one is asked -/
theorem TkI.resend {U : List Nat} {L : Lay} {cf : Cfg} {s : Cs} {w : World} {n k : Nat} {wh : List Nat} {az : List Ask} {ms : List Msg} {v : Value} {wr : World} (h : TkI U L cf s w n k wh az ms v wr) {p : Nat} {a : Ask} (hpk : L.az[k]? = some p) (hpm : p ∈ L.all) (haz : az[k]? = some a)
    (han : ¬ a.answered = true) (hnw : ¬ a.waited + 1 < cf.pat) (htr : ¬ cf.tries ≤ a.tried) (q : Nat) {wi' nj' : Nat} (hwi : wh.getD a.shard 0 = wi') (hnj : (cf.shards.getD a.shard []).length = nj') {dd' : Int} (hdd : dest cf (nextW cf wh a.shard) a.shard = dd') {fl' nm' : Nat} (hfl : a.frame.length = fl') (hnm : ms.length = nm')
    (hlt : k < n) {vs : List Value} (hvs : wr.ownsRow 0 44 3 v nm' vs ∧ MsOk (v.ownBlock.toList ++ (L.all ++ U)) wr ms vs) :
    Calls Tryz.prog 31 #[.pointer (some ⟨L.b, 0, none⟩), .pointer (some ⟨p, 0, none⟩)] (((wr.setCell ⟨p, 5, none⟩ (.int .i64 ((a.waited : Int) + 1))).drewN q).setCell ⟨L.gw, a.shard, none⟩ (.int .i64 (((wi' : Int) + 1) % (nj' : Int)))) fun e w2 => ∃ A2 c2, e = .returned (.agg #[.int .i64 (cf.id : Int), .int .i64 dd', .slice A2 fl' c2]) ∧
      As ((w2.alloc (.cells #[.int .i64 (cf.id : Int), .int .i64 dd', .slice A2 fl' c2] 44)).ownsRow 0 44 3 v nm' vs) ∧
      As (∀ v3 w3, w3.ownsRow 0 44 3 v3 (nm' + 1) (vs ++ [.int .i64 (cf.id : Int), .int .i64 dd', .slice A2 fl' c2]) → Kp v.ownBlock.toList (w2.alloc (.cells #[.int .i64 (cf.id : Int), .int .i64 dd', .slice A2 fl' c2] 44)) w3 → At (w2.heap.size + 1) v.ownBlock v3.ownBlock →
        TkI U L cf s w n (k + 1) (nextW cf wh a.shard) (az.set k { a with waited := 0, tried := a.tried + 1, hinted := false }) (ms ++ [msgOf cf (nextW cf wh a.shard) a]) v3 w3) := by
  obtain ⟨g1, g2, g3, g4, g5⟩ := h.wait hpk hpm haz ((Kp.refl [] _).drewN q)
  obtain ⟨κ, VS, VW, VJ, VD, MV, AV, l, hp⟩ := g1
  have aok := h.ok.asks a (List.mem_of_getElem? haz)
  have hwl := h.ok.wlen
  have hwl : wh.length = cf.shards.length := hwl
  obtain ⟨_, _, _, _, _, _, _, cw, _, _, _, _, _, hVW, _⟩ := hp.dest g4 aok.shard
  have hval : (((wi' : Int) + 1) % (nj' : Int)) = (((wi' + 1) % nj' : Nat) : Int) := rfl
  rw [hval]
  obtain ⟨hp2, kW⟩ := hp.whom a.shard ((wi' + 1) % nj') cw hVW (by show a.shard < wh.length; rw [hwl]; exact aok.shard) rfl
  have hnext : wh.set a.shard ((wi' + 1) % nj') = nextW cf wh a.shard := by rw [nextW, hwi, hnj]
  have hst2 : CoSt (v.ownBlock.toList ++ U) (((wr.setCell ⟨p, 5, none⟩ (.int .i64 ((a.waited : Int) + 1))).drewN q).setCell ⟨L.gw, a.shard, none⟩ (.int .i64 (((wi' + 1) % nj' : Nat) : Int))) L cf { s with whom := nextW cf wh a.shard, asks := az.set k { a with waited := a.waited + 1 } } := by
    rw [← hnext]
    exact ⟨_, _, _, _, _, _, _, _, hp2⟩
  have hok2 := g4.next aok.shard
  have hkl : k < az.length := by rw [h.len]; exact hlt
  have hTR := tried_any (v.ownBlock.toList ++ U) _ L cf _ k p { a with waited := a.waited + 1 } hst2 hok2 hpk (by show (az.set k _)[k]? = _; simp [hkl]) (by show a.tried < cf.tries; omega)
  refine hTR.mono ?_
  rintro e w2 ⟨dv, rfl, hd, hc, hk2⟩
  obtain ⟨A2, c2, rfl, hd2⟩ := id hd
  have hfd : dest cf ({ s with whom := nextW cf wh a.shard, asks := az.set k { a with waited := a.waited + 1 } } : Cs).whom ({ a with waited := a.waited + 1 } : Ask).shard = dd' := hdd
  rw [hfd, show ({ a with waited := a.waited + 1 } : Ask).frame.length = fl' from hfl]
  have hgm : L.gw ∈ L.all := Lay.mem.2 (by simp)
  have kAll : Kp L.all wr w2 := ((g5.mono (T := L.all) (by intro x hx; simp at hx; subst hx; exact .inl hpm)).trans kW (by intro x hx; simp at hx; subst hx; exact .inl hgm)).trans hk2 (by intro x hx; simp at hx; subst hx; exact .inl hpm)
  obtain ⟨_, _, hv, _⟩ := h.out
  have hvL : ∀ x, v.ownBlock = some x → x ∉ L.all := fun x e hm => hv x e (List.mem_append.2 (.inl hm))
  have ho2 := kAll.own hvs.1 hvL
  have hdd2 : BSl (L.all ++ (v.ownBlock.toList ++ U)) w2 (.slice A2 fl' c2) a.frame := by
    have hd' := hd
    simp only [hfl] at hd'
    exact hd'
  refine ⟨A2, c2, rfl, ⟨ho2.alloc _⟩, ⟨fun v3 w3 o3 k3 a3 => ?_⟩⟩
  have hs2 := kAll.size
  have hs0 := h.kp.size
  have hlt4 := h.st.lt
  have k13 : Kp v.ownBlock.toList w2 w3 := ((Kp.refl v.ownBlock.toList w2).alloc _).trans k3 (fun x hx => .inl hx)
  have hu3 : ∀ g, v3.ownBlock = some g → v.ownBlock = some g ∨ w2.heap.size ≤ g ∧ g < w3.heap.size := by
    intro g e
    have h9 := own_lt o3 g e
    rcases a3 with e2 | ⟨y, e2, hy⟩
    · rw [e2] at e; exact .inl e
    · rw [e2] at e; cases e; exact .inr ⟨by omega, h9⟩
  have hlt5 : ∀ x ∈ L.all ++ U, x < w2.heap.size := fun x hx => by
    have := hlt4 x (by simp only [List.mem_append] at hx ⊢; rcases hx with e | e; exact .inl e; exact .inr (.inr e))
    omega
  have hok3 := hok2.ask k (a := { a with waited := 0, tried := a.tried + 1, hinted := false }) ⟨aok.shard, aok.ctx, aok.frame, by show a.tried + 1 ≤ cf.tries; omega, by show 0 ≤ 1001; omega⟩
  have hset : (az.set k { a with waited := a.waited + 1 }).set k { a with waited := 0, tried := a.tried + 1, hinted := false } = az.set k { a with waited := 0, tried := a.tried + 1, hinted := false } := List.set_set ..
  have hpat := h.ok.cfg.pat
  have hgo := h.go
  have hst := tkGo_step cf (n - (k + 1)) k wh az ms a haz
  rw [show n - (k + 1) + 1 = n - k by omega] at hst
  rw [if_neg han, if_neg hnw, if_neg htr] at hst
  refine ⟨?_, h.wt.set k (by show 0 < cf.pat; omega), by rw [List.length_set]; exact h.len, ?_, ?_, (h.kp.trans kAll (fun x hx => .inl hx)).trans k13 (fun x hx => .inr (h.own x (by simpa using hx))), fun g e => ?_, by rw [List.length_append]; have := h.few; simp; omega, hst.symm.trans hgo⟩
  · have h9 : CsOk cf { s with whom := nextW cf wh a.shard, asks := (az.set k { a with waited := a.waited + 1 }).set k { a with waited := 0, tried := a.tried + 1, hinted := false } } := hok3
    rw [hset] at h9
    exact h9
  · have h9 := hc.kp (U2 := v3.ownBlock.toList ++ U) k13 (fun x hx => .inl (List.mem_append.2 (.inl hx))) (fun x hx => by
      rcases List.mem_append.1 hx with e | e
      · rcases hu3 x (by simpa using e) with e2 | e2
        · exact .inl (List.mem_append.2 (.inl (by simp [e2])))
        · exact .inr e2
      · exact .inl (List.mem_append.2 (.inr e)))
    have h10 : CoSt (v3.ownBlock.toList ++ U) w3 L cf { s with whom := nextW cf wh a.shard, asks := (az.set k { a with waited := a.waited + 1 }).set k { a with waited := 0, tried := a.tried + 1, hinted := false } } := h9
    rw [hset] at h10
    exact h10
  · have e1 : msgOf cf (nextW cf wh a.shard) a = ⟨cf.id, dd', a.frame⟩ := by rw [← hdd]; rfl
    rw [e1]
    refine OutI.snoc (m := ⟨cf.id, dd', a.frame⟩) hnm hlt5 hv (hvs.2.kp kAll (fun x hx => .inl (List.mem_append.2 (.inr (List.mem_append.2 (.inl hx))))) (fun x hx => .inl hx)) ?_ o3 k3 a3
    refine hdd2.kp (Kp.refl [] w2) (by simp) (fun x hx => .inl ?_)
    simp only [List.mem_append] at hx ⊢
    rcases hx with e | e | e
    · exact .inr (.inl e)
    · exact .inl e
    · exact .inr (.inr e)
  · rcases hu3 g e with e2 | e2
    · exact h.own g e2
    · omega

end Go.Proofs.YtdiljpdohmeceaaGreat.co
