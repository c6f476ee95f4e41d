/- coord: a job begins: one round. -/
import Derived.Test.YtdiljpdohmeceaaGreatCoU
namespace Go.Proofs.YtdiljpdohmeceaaGreat.co
open Go.RowKit H O opk frame wir

theorem info_ask : (Tryz.prog.info? 97).map (fun i => (i.zero, i.size, i.bytes)) = some (some (.pointer none), 1, 8) := by kernel_rfl
theorem BSl.jd {S : List Nat} {w : World} {lo : Nat} {v : Value} {xs : List Int} (h : joins.Jd xs lo w v) (hS : ∀ x ∈ S, x < lo) (hm : xs.length ≤ 9223372036854775807) : BSl S w v xs := by
  rcases h with h | ⟨g, rfl, h1, h2, h3⟩
  · exact BSl.own h (fun x hx => .inl (hS x hx))
  · refine ⟨_, _, rfl, fun j u hu => ?_, Nat.le_refl _, hm, by simp⟩
    obtain ⟨a, ha, hc⟩ := h3 j u hu
    cases ha
    exact ⟨_, rfl, fun hm => by have := hS _ hm; simp at this; omega, hc⟩

/-- the state behind k shards -/
def bSt (cf : Cfg) (s : Cs) (j : Job) (k : Nat) : Cs := { s with asks := mkAsks cf s.ended j 0 s.ctx (pre cf j k), ctx := s.ctx + (pre cf j k).length }
def BegI (U : List Nat) (L : Lay) (cf : Cfg) (s' : Cs) (w : World) (w' : World) : Prop := ∃ L', CoSt U w' L' cf s' ∧ Grew w L L' ∧ L'.js = L.js ∧ Kp L.all w w'
theorem bSt_next {cf : Cfg} {s : Cs} {j : Job} {k : Nat} (h : pre cf j (k + 1) = pre cf j k ++ [k]) : bSt cf s j (k + 1) = { bSt cf s j k with ctx := (bSt cf s j k).ctx + 1, asks := (bSt cf s j k).asks ++ [newAsk cf s.ended j 0 ((bSt cf s j k).ctx + 1) k] } := by
  simp only [bSt, h, mkAsks_snoc, List.length_append, List.length_singleton]
  rfl

/-- the new ask's block -/
def askNew (wk : Int) (c1 k : Nat) (dv : Value) : Obj := .cells #[.int .i64 wk, .int .i64 (c1 : Int), .int .i64 (k : Int), dv, .slice none 0 0, .int .i64 0, .int .i64 0, .bool false, .bool false] 101
structure BegM (U : List Nat) (cf : Cfg) (s' : Cs) (L : Lay) (p0 : Nat) (wr : World) (wk : Int) (c1 k : Nat) (dv AV vF : Value) (w4 : World) : Prop where
  own : wr.ownsRow 0 97 1 AV L.az.length (L.az.map ptr) ∧ AV.ownBlock = L.ga
  b : L.b < wr.heap.size
  ga : ∀ x, L.ga = some x → x < wr.heap.size ∧ x ≠ L.b ∧ x ≠ p0
  pp : p0 < wr.heap.size ∧ p0 ≠ L.b
  cell : wr.cell? ⟨p0, 13, none⟩ = some AV ∧ wr.frozen? ⟨p0, 13, none⟩ = false
  kp : Kp [] ((wr.setCell ⟨L.b, 7, none⟩ (.int .i64 (c1 : Int))).alloc (askNew wk c1 k dv)) w4

theorem BegM.mid {U : List Nat} {cf : Cfg} {s' : Cs} {L : Lay} {p0 : Nat} {wr : World} {wk : Int} {c1 k : Nat} {dv AV vF : Value} {w4 : World} (h : BegM U cf s' L p0 wr wk c1 k dv AV vF w4) :
    w4.cell? ⟨wr.heap.size, 4, none⟩ = some (.slice none 0 0) ∧ w4.frozen? ⟨wr.heap.size, 4, none⟩ = false ∧ wr.heap.size < w4.heap.size ∧ w4.cell? ⟨p0, 13, none⟩ = some AV ∧ p0 ≠ wr.heap.size ∧
      ((w4.setCell ⟨wr.heap.size, 4, none⟩ vF).alloc (.cells #[ptr wr.heap.size] 97)).ownsRow 0 97 1 AV L.az.length (L.az.map ptr) := by
  have hs : (wr.setCell ⟨L.b, 7, none⟩ (.int .i64 (c1 : Int))).heap.size = wr.heap.size := by simp
  have hq := heap_alloc_new (wr.setCell ⟨L.b, 7, none⟩ (.int .i64 (c1 : Int))) (askNew wk c1 k dv)
  rw [hs] at hq
  have hq4 := h.kp.blk hq (by simp)
  have kA : Kp [L.b] wr w4 := ((((Kp.refl [L.b] wr).setCell (.inl (by simp)) _).alloc _)).trans h.kp (by simp)
  have kB : Kp [wr.heap.size] w4 ((w4.setCell ⟨wr.heap.size, 4, none⟩ vF).alloc (.cells #[ptr wr.heap.size] 97)) := ((Kp.refl [wr.heap.size] w4).setCell (.inl (by simp)) _).alloc _
  refine ⟨blk_cell hq4 4 rfl, blk_free hq4 4, lt_of_block hq4, kA.cell h.cell.1 (by simp; exact h.pp.2), by have := h.pp; omega, ?_⟩
  have hg := h.own.2
  refine kB.own (kA.own h.own.1 (fun x e => ?_)) (fun x e => ?_)
  · have := h.ga x (by rw [← hg]; exact e)
    simp; omega
  · have := h.ga x (by rw [← hg]; exact e)
    simp; omega

theorem BegM.fin {U : List Nat} {cf : Cfg} {s : Cs} {j : Job} {r : List Job} {L Lk : Lay} {p0 : Nat} {ps : List Nat} {w1 wr : World} {wk : Int} {c1 k : Nat} {dv vF v7 : Value} {w4 w7 : World} {κ : Nat → Nat} {VS VW VJ VD MV AV : Value} {l : List (ByteArray × Int)}
    (h : BegM U cf (bSt cf s j k) Lk p0 wr wk c1 k dv AV vF w4) (hc : CoP U wr Lk cf (bSt cf s j k) κ VS VW VJ VD MV AV l) (hg : Grew w1 L Lk) (hjl : Lk.js = L.js) (hkp : Kp L.all w1 wr) (hj : s.jobs = j :: r) (hL : L.js = p0 :: ps)
    (hpre : pre cf j (k + 1) = pre cf j k ++ [k]) (hc1 : c1 = (bSt cf s j k).ctx + 1) (hF : ∀ S2, (∀ x ∈ S2, x ≤ wr.heap.size) → BSl S2 w4 vF (frameOf cf s.ended j c1 k))
    (o7 : w7.ownsRow 0 97 1 v7 (Lk.az.length + 1) (Lk.az.map ptr ++ [ptr wr.heap.size])) (k7 : Kp AV.ownBlock.toList ((w4.setCell ⟨wr.heap.size, 4, none⟩ vF).alloc (.cells #[ptr wr.heap.size] 97)) w7) (a7 : At (w4.heap.size + 1) AV.ownBlock v7.ownBlock) :
    w7.cell? ⟨p0, 13, none⟩ = some AV ∧ w7.frozen? ⟨p0, 13, none⟩ = false ∧ BegI U L cf (bSt cf s j (k + 1)) w1 (w7.setCell ⟨p0, 13, none⟩ v7) := by
  have hs : (wr.setCell ⟨Lk.b, 7, none⟩ (.int .i64 (c1 : Int))).heap.size = wr.heap.size := by simp
  have hq := heap_alloc_new (wr.setCell ⟨Lk.b, 7, none⟩ (.int .i64 (c1 : Int))) (askNew wk c1 k dv)
  rw [hs] at hq
  have hq4 := h.kp.blk hq (by simp)
  have hqs := lt_of_block hq4
  have hp0 := h.pp
  have hbl := h.b
  have hL' : Lk.js = p0 :: ps := hjl.trans hL
  -- the blocks at w7
  have kA : Kp [Lk.b] wr w4 := ((((Kp.refl [Lk.b] wr).setCell (.inl (by simp)) _).alloc _)).trans h.kp (by simp)
  have kB : Kp [wr.heap.size] w4 ((w4.setCell ⟨wr.heap.size, 4, none⟩ vF).alloc (.cells #[ptr wr.heap.size] 97)) := ((Kp.refl [wr.heap.size] w4).setCell (.inl (by simp)) _).alloc _
  have hgb : ∀ x, AV.ownBlock = some x → x < wr.heap.size ∧ x ≠ Lk.b ∧ x ≠ p0 := fun x e => h.ga x (by rw [← h.own.2]; exact e)
  have nq : wr.heap.size ∉ AV.ownBlock.toList := by
    intro e
    have e : AV.ownBlock = some wr.heap.size := by simpa using e
    have := (hgb _ e).1
    omega
  have np : p0 ∉ AV.ownBlock.toList := by
    intro e
    have e : AV.ownBlock = some p0 := by simpa using e
    exact (hgb _ e).2.2 rfl
  have nb : Lk.b ∉ AV.ownBlock.toList := by
    intro e
    have e : AV.ownBlock = some Lk.b := by simpa using e
    exact (hgb _ e).2.1 rfl
  have kC : Kp [p0] w7 (w7.setCell ⟨p0, 13, none⟩ v7) := (Kp.refl [p0] w7).setCell (.inl (by simp)) _
  -- Coord's block
  have hb0 : (wr.setCell ⟨Lk.b, 7, none⟩ (.int .i64 (c1 : Int))).heap[Lk.b]? = _ := heap_setCell_same wr Lk.b 7 _ _ (.int .i64 (c1 : Int)) hc.hd
  have hb4 := h.kp.blk (blk_alloc hb0 (askNew wk c1 k dv)) (by simp)
  have hb7 := kC.blk (k7.blk (kB.blk hb4 (by simp; omega)) nb) (by simp; omega)
  -- the job's block
  obtain ⟨tv, ev, hp, htv, hev⟩ := hc.ja 0 j p0 (show s.jobs[0]? = some j by rw [hj]; rfl) (by rw [hL']; rfl)
  rw [if_pos rfl, if_pos rfl] at hp
  have hp7 := k7.blk (kB.blk (kA.blk hp (by simp; omega)) (by simp; omega)) np
  have hpE := heap_setCell_same w7 p0 13 _ _ v7 hp7
  -- the ask's block
  have hq5 : ((w4.setCell ⟨wr.heap.size, 4, none⟩ vF).alloc (.cells #[ptr wr.heap.size] 97)).heap[wr.heap.size]? = _ := blk_alloc (heap_setCell_same w4 wr.heap.size 4 _ _ vF hq4) _
  have hqE := kC.blk (k7.blk hq5 nq) (by simp; omega)
  have kW : Kp (Lk.b :: p0 :: Lk.ga.toList) wr (w7.setCell ⟨p0, 13, none⟩ v7) := by
    refine (((kA.mono (T := Lk.b :: p0 :: Lk.ga.toList) (by simp)).trans kB (by simp)).trans k7 ?_).trans kC (by simp)
    intro x hx
    rw [h.own.2] at hx
    exact .inl (by simp at hx; simp [hx])
  have hat : ∀ x, v7.ownBlock = some x → (Lk.ga = some x ∨ wr.heap.size ≤ x) ∧ x ≠ wr.heap.size := by
    intro x e
    rcases a7 with e2 | ⟨y, e2, hy⟩
    · rw [e2] at e
      refine ⟨.inl (by rw [← h.own.2]; exact e), ?_⟩
      have := (hgb x e).1
      omega
    · rw [e2] at e
      cases e
      exact ⟨.inr (by omega), by omega⟩
  have hcl : ∀ x ∈ Lk.all ++ U, x < wr.heap.size := (CoSt.lt ⟨κ, VS, VW, VJ, VD, MV, AV, l, hc⟩)
  have ho7 : (w7.setCell ⟨p0, 13, none⟩ v7).ownsRow 0 97 1 v7 (Lk.az.length + 1) (Lk.az.map ptr ++ [ptr wr.heap.size]) := by
    refine kC.own o7 (fun x e hm => ?_)
    simp only [List.mem_singleton] at hm
    subst hm
    rcases a7 with e2 | ⟨y, e2, hy⟩
    · rw [e2] at e
      exact (hgb x e).2.2 rfl
    · rw [e2] at e
      cases e
      omega
  have hV' : ∀ x ∈ Lk.b :: p0 :: Lk.ga.toList, x ∈ Lk.all ++ U ∨ wr.heap.size ≤ x := by
    intro x hx
    refine .inl (List.mem_append.2 (.inl (Lay.mem.2 ?_)))
    rcases List.mem_cons.1 hx with rfl | hx
    · simp
    · rcases List.mem_cons.1 hx with rfl | hx
      · simp [hL']
      · have e : Lk.ga = some x := by simpa using hx
        simp [e]
  have hfin := hc.addAsk (a := newAsk cf s.ended j 0 c1 k) (q := wr.heap.size) (AV1 := v7) (r := r) (ps := ps) (p0 := p0) (j := j) hj hL' kW (by rw [hc1] at hb7; exact hb7)
    (fun S2 hS2 => ⟨tv, ev, hpE, htv.kp kW hV' hS2, hev.kp kW hV' hS2⟩)
    (fun S2 hS2 => ⟨wk, dv, vF, hqE, by
      have h1 := hF (Lk.all ++ U ++ [wr.heap.size]) (fun x hx => by
        rcases List.mem_append.1 hx with e | e
        · have := hcl x e; omega
        · simp at e; omega)
      have k8 : Kp (wr.heap.size :: AV.ownBlock.toList ++ [p0]) w4 (w7.setCell ⟨p0, 13, none⟩ v7) := ((kB.mono (by simp)).trans k7 (by intro x hx; left; simp at hx ⊢; simp [hx])).trans kC (by simp)
      refine h1.kp k8 (fun x hx => .inl ?_) (fun x hx => ?_)
      · simp only [List.cons_append, List.mem_cons, List.mem_append, List.not_mem_nil, or_false] at hx ⊢
        rcases hx with e | e | e
        · exact .inr e
        · exact .inl (.inl (Lay.mem.2 (by rw [h.own.2] at e; simp at e; simp [e])))
        · exact .inl (.inl (Lay.mem.2 (by simp [hL', e])))
      · rcases hS2 x hx with e | e | e
        · exact .inl (by simp only [List.mem_append] at e ⊢; exact .inl e)
        · exact .inl (by simp [e])
        · rcases a7 with e2 | ⟨y, e2, hy⟩
          · rw [e2, h.own.2] at e
            exact .inl (by simp only [List.mem_append]; exact .inl (.inl (Lay.mem.2 (by simp [e]))))
          · rw [e2] at e
            cases e
            exact .inr (by omega)⟩)
    (Nat.le_refl _) (by have := lt_of_block hqE; exact this) ho7 hat rfl
  refine ⟨blk_cell hp7 13 rfl, blk_free hp7 13, { Lk with ga := v7.ownBlock, az := Lk.az ++ [wr.heap.size] }, ⟨_, _, _, _, _, _, _, _, by rw [bSt_next hpre, ← hc1]; rw [← hc1] at hfin; exact hfin⟩, ⟨hg.1, fun x hx => ?_⟩, hjl, hkp.trans kW (fun x hx => ?_)⟩
  · have hsz := hkp.size
    rcases Lay.mem.1 hx with e | e | e | e | e | e | e | e
    · exact hg.2 x (Lay.mem.2 (.inl e))
    · exact hg.2 x (Lay.mem.2 (by simp [show x = Lk.gw from e]))
    · exact hg.2 x (Lay.mem.2 (by simp [show Lk.gj = some x from e]))
    · exact hg.2 x (Lay.mem.2 (by simp [show Lk.gd = some x from e]))
    · rcases (hat x e).1 with e2 | e2
      · exact hg.2 x (Lay.mem.2 (by simp [e2]))
      · exact .inr (by omega)
    · exact hg.2 x (Lay.mem.2 (by simp [show Lk.gm = some x from e]))
    · exact hg.2 x (Lay.mem.2 (by simp [show x ∈ Lk.js from e]))
    · have e : x ∈ Lk.az ++ [wr.heap.size] := e
      rcases List.mem_append.1 e with e2 | e2
      · exact hg.2 x (Lay.mem.2 (by simp [e2]))
      · simp at e2
        exact .inr (by omega)
  · rcases hV' x hx with e | e
    · rcases List.mem_cons.1 hx with rfl | hx2
      · exact hg.2 _ (Lay.mem.2 (.inl rfl))
      · rcases List.mem_cons.1 hx2 with rfl | hx3
        · exact .inl (Lay.mem.2 (by simp [hL]))
        · have e : Lk.ga = some x := by simpa using hx3
          exact hg.2 _ (Lay.mem.2 (by simp [e]))
    · exact .inr (by have := hkp.size; omega)
end Go.Proofs.YtdiljpdohmeceaaGreat.co
