/- coord: a job more: (*Coord).gives. -/
import Derived.Test.YtdiljpdohmeceaaGreatCoX
import Derived.ArgAppend
namespace Go.Proofs.YtdiljpdohmeceaaGreat.co
open Go.RowKit H O opk frame wir

theorem info_job : (Tryz.prog.info? 88).map (fun i => (i.zero, i.size, i.bytes)) = some (some (.pointer none), 1, 8) := by kernel_rfl
theorem Que.of_own {w : World} {v : Value} {ps : List Nat} (h : w.ownsRow 0 88 1 v ps.length (ps.map ptr)) : Que w v v.ownBlock ps := by
  rcases h.2 with ⟨rfl, h0⟩ | ⟨g, cap, cur, rfl, _, hg, h1, h2, h3, h4⟩
  · exact .inl ⟨rfl, rfl, List.eq_nil_of_length_eq_zero h0⟩
  · refine .inr ⟨g, 0, cap, cur, rfl, rfl, hg, h1, by omega, h2, fun i p hi => ?_⟩
    have hl := (List.getElem?_eq_some_iff.1 hi).1
    have e : (cur.toList.take (ps.length * 1))[i]? = some (ptr p) := by
      rw [h4, List.getElem?_map, hi]
      rfl
    rw [List.getElem?_take, if_pos (by omega)] at e
    simpa using e
/-- one pointer more -/
theorem run_que {w : World} {v : Value} {g : Option Nat} {ps : List Nat} (hq : Que w v g ps) (ty : TypeId) (x p : Nat) (hx : w.cell? ⟨x, 0, none⟩ = some (ptr p)) (hl : ps.length + 1 ≤ 1000000) :
    ∃ v' w' g', (Builtin.append_ #[93, 93] ty #[v, .slice (some ⟨x, 0, none⟩) 1 1]).run Tryz.prog w = .ok v' w' ∧ Que w' v' g' (ps ++ [p]) ∧ Kp g.toList w w' ∧ At w.heap.size g g' ∧ v'.ownBlock = g' := by
  have hrd : Rd w (some ⟨x, 0, none⟩) [ptr p] := by
    intro j u hj
    match j, hj with
    | 0, hj => simp at hj; subst hj; exact ⟨_, rfl, by rw [add_zero']; exact hx⟩
  obtain ⟨i, hi, hz, hs, hby⟩ := info_parts info_job
  rcases hq with ⟨rfl, rfl, rfl⟩ | ⟨b, o, c, cur, rfl, rfl, hb, h1, h2, h3, h4⟩
  · obtain ⟨v', w', hr, h2, h3, h4, h5⟩ := run_app (P := Tryz.prog) w 93 ty 88 (.pointer none) 1 8 Tryz.underlying93 info_job rfl (by decide) (.slice none 0 0) 0 [] (World.ownsRow_nil w 0 _ 1) (some ⟨x, 0, none⟩) 1 1 [ptr p] rfl hrd (by simp) (by simp [ptr, Value.oneCell']) (by omega) (by omega)
    exact ⟨v', w', v'.ownBlock, hr, Que.of_own (ps := [p]) (by simpa using h2), by simpa [Value.ownBlock] using h3, h4, rfl⟩
  · have hnews : ∀ (j : Nat) (u : Value), [ptr p][j]? = some u → w.cell? ((⟨x, 0, none⟩ : Addr).add j) = some u := by
      intro j u hj
      obtain ⟨a, ha, hc⟩ := hrd j u hj
      cases ha
      exact hc
    by_cases hroom : ps.length + 1 ≤ c
    · have hr := run_append_room_cells (P := Tryz.prog) w 93 ty 88 i Tryz.underlying93 hi b o ps.length c ⟨x, 0, none⟩ 1 1 [ptr p] (by rw [hs]; rfl) hnews (by simp [ptr, Value.oneCell']) hroom
        (fun j hj => by
          have hj0 : j = 0 := by simp at hj; omega
          subst hj0
          have hlt : o + ps.length * i.size + 0 < cur.size := by rw [hs]; omega
          rw [blk_cell hb (o + ps.length * i.size + 0) (v := cur[o + ps.length * i.size + 0]) (by simp)]
          rfl)
        (fun j hj => frozen_of_row w b _ cur _ hb)
      rw [hs, Nat.mul_one] at hr
      refine ⟨_, _, some b, hr, .inr ⟨b, o, c, cur.setIfInBounds (o + ps.length) (ptr p), rfl, by rw [List.length_append]; rfl, heap_setCell_same w b (o + ps.length) cur _ (ptr p) hb, by rw [List.length_append]; simpa using hroom, by simpa using h2, h3, fun j q hj => ?_⟩, (Kp.refl [b] w).setCell (.inl (by simp)) _, .inl rfl, rfl⟩
      by_cases hjl : j < ps.length
      · rw [List.getElem?_append_left hjl] at hj
        rw [Array.getElem?_setIfInBounds_ne (by omega)]
        exact h4 j q hj
      · have hj2 : j = ps.length := by
          have := (List.getElem?_eq_some_iff.1 hj).1
          rw [List.length_append, List.length_singleton] at this
          omega
        subst hj2
        rw [List.getElem?_append_right (Nat.le_refl _)] at hj
        simp at hj
        subst hj
        rw [Array.getElem?_setIfInBounds_self]
        simp; omega
    · have hold : ∀ (j : Nat) (u : Value), (ps.map ptr)[j]? = some u → w.cell? ((⟨b, o, none⟩ : Addr).add j) = some u := by
        intro j u hj
        rw [List.getElem?_map] at hj
        cases e : ps[j]? with
        | none => rw [e] at hj; cases hj
        | some q =>
          rw [e] at hj
          cases hj
          rw [Go.WideShapes.add_plain]
          exact blk_cell hb _ (h4 j q e)
      obtain ⟨v', w', hr, g1, g2⟩ := run_append_arg_grows (P := Tryz.prog) w 93 ty 88 i (.pointer none) 1 8 Tryz.underlying93 hi hz hs hby rfl (by decide) ⟨b, o, none⟩ ps.length c (ps.map ptr) (by simp) hold ⟨x, 0, none⟩ 1 1 [ptr p] rfl hnews (by omega) (by simp [maxLen]; omega) (by omega)
      have g3 : w'.ownsRow 0 88 1 v' (ps ++ [p]).length ((ps ++ [p]).map ptr) := by
        have := own_base g1 (base' := 0) (fun _ _ => Nat.zero_le _)
        simpa using this
      refine ⟨v', w', v'.ownBlock, hr, Que.of_own g3, ((Kp.refl [] w).grown g2 (by simp)).mono (by simp), ?_, rfl⟩
      obtain ⟨g', cap, rfl, _⟩ := own_form g3 (by simp)
      refine .inr ⟨g', rfl, ?_⟩
      rcases g1.2 with ⟨e, _⟩ | ⟨g'', cap', cur', e, hle, _⟩
      · simp at e
      · simp only [Value.slice.injEq, Option.some.injEq, Addr.mk.injEq] at e
        have := e.1.1
        omega
theorem wpList_que {w : World} {ops : Array Oper} {rest : List Oper} {o : Oper} {a : Act} {Q : Exit → Act → World → Prop} (hgd : o.guard = none) (s x : Operand)
    (ho : o.op = .call { callee := .builtin .append, args := #[s, x], argTypes := #[93, 93] })
    (v : Value) (g : Option Nat) (ps : List Nat) (hs : a.eval s = v) (hq : Que w v g ps) (y p : Nat) (hx : a.eval x = .slice (some ⟨y, 0, none⟩) 1 1) (hy : w.cell? ⟨y, 0, none⟩ = some (ptr p)) (hl : ps.length + 1 ≤ 1000000)
    (h : ∀ v' w' g', Que w' v' g' (ps ++ [p]) → Kp g.toList w w' → At w.heap.size g g' → v'.ownBlock = g' → wpList Tryz.prog ops Q rest (a.put o.dst v') w') : wpList Tryz.prog ops Q (o :: rest) a w := by
  refine wpList_plain hgd fun K hK => ?_
  obtain ⟨v', w', g', hr, h2, h3, h4, h5⟩ := run_que hq o.type y p hy hl
  unfold Oper.wp execOp
  simp only [ho, resolve, invoke, builtin, Sem.run_bind, Sem.run_pure, Result.andThen_ok, List.map_toArray, List.map_cons, List.map_nil, hs, hx, hr]
  exact hK _ _ (h v' w' g' h2 h3 h4 h5)

/-- a job more: w1 behind all stores; p the job's block -/
theorem CoP.more {U : List Nat} {w w1 : World} {L : Lay} {cf : Cfg} {s : Cs} {κ : Nat → Nat} {VS VW VJ VD MV AV VJ1 : Value} {l : List (ByteArray × Int)} {p : Nat} (h : CoP (p :: U) w L cf s κ VS VW VJ VD MV AV l) {j : Job} {g1 : Option Nat} (hpu : p ∉ U) (hno : s.jobs = [] → s.asks = [])
    (k : Kp (L.b :: p :: L.gj.toList) w w1)
    (hb : w1.heap[L.b]? = some (.cells #[.int .i64 (cf.id : Int), .int .i64 (cf.pat : Int), .int .i64 (cf.tries : Int), VS, VW, VJ1, .int .i64 ((nextJ s + 1 : Nat) : Int), .int .i64 (s.ctx : Int), VD] 95 (0, 0)))
    (hq : Que w1 VJ1 g1 (L.js ++ [p])) (hat : ∀ x, g1 = some x → L.gj = some x ∨ w.heap.size ≤ x)
    (hj : ∀ S2, (∀ x ∈ S2, x ∈ L.all ++ (p :: U) ∨ w.heap.size ≤ x) → JobAt S2 w1 p cf.id (nextJ s) j (.slice none 0 0) (.slice none 0 0)) :
    ∃ L', CoSt U w1 L' cf (gives s j) ∧ L'.b = L.b ∧ (∀ x ∈ L'.all, x ∈ L.all ∨ x = p ∨ w.heap.size ≤ x) := by
  have hs := k.size
  have hpU := h.sep.U p (by simp)
  have hkp : ∀ x ∈ L.b :: p :: L.gj.toList, (κ x = 1 ∨ κ x = 0 ∨ κ x = 3) ∧ (x ∈ L.all ∨ x = p) := by
    intro x hx
    rcases List.mem_cons.1 hx with rfl | hx
    · exact ⟨.inl h.sep.b.1, .inl (Lay.mem.2 (.inl rfl))⟩
    · rcases List.mem_cons.1 hx with rfl | hx
      · exact ⟨.inr (.inl hpU.1), .inr rfl⟩
      · have e : L.gj = some x := by simpa using hx
        exact ⟨.inr (.inr (h.sep.gj x e).1), .inl (Lay.mem.2 (by simp [e]))⟩
  have hV' : ∀ x ∈ L.b :: p :: L.gj.toList, x ∈ L.all ++ (p :: U) ∨ w.heap.size ≤ x := by
    intro x hx
    rcases (hkp x hx).2 with e | e
    · exact .inl (List.mem_append.2 (.inl e))
    · exact .inl (List.mem_append.2 (.inr (by simp [e])))
  let L' : Lay := { L with gj := g1, js := L.js ++ [p] }
  have hgr : ∀ x ∈ L'.all, x ∈ L.all ∨ x = p ∨ w.heap.size ≤ x := by
    intro x hx
    rcases Lay.mem.1 hx with e | e | e | e | e | e | e | e
    · exact .inl (Lay.mem.2 (by simp [show x = L.b from e]))
    · exact .inl (Lay.mem.2 (by simp [show x = L.gw from e]))
    · rcases hat x e with e2 | e2
      · exact .inl (Lay.mem.2 (by simp [e2]))
      · exact .inr (.inr e2)
    · exact .inl (Lay.mem.2 (by simp [show L.gd = some x from e]))
    · exact .inl (Lay.mem.2 (by simp [show L.ga = some x from e]))
    · exact .inl (Lay.mem.2 (by simp [show L.gm = some x from e]))
    · have e : x ∈ L.js ++ [p] := e
      rcases List.mem_append.1 e with e2 | e2
      · exact .inl (Lay.mem.2 (by simp [e2]))
      · exact .inr (.inl (by simpa using e2))
    · exact .inl (Lay.mem.2 (by simp [show x ∈ L.az from e]))
  have hS' : ∀ x ∈ L'.all ++ U, x ∈ L.all ++ (p :: U) ∨ w.heap.size ≤ x := by
    intro x hx
    rcases List.mem_append.1 hx with e | e
    · rcases hgr x e with e2 | e2 | e2
      · exact .inl (List.mem_append.2 (.inl e2))
      · exact .inl (List.mem_append.2 (.inr (by simp [e2])))
      · exact .inr e2
    · exact .inl (List.mem_append.2 (.inr (List.mem_cons_of_mem _ e)))
  have ne : ∀ x c, κ x = c → c ≠ 0 → c ≠ 1 → c ≠ 3 → x ∉ L.b :: p :: L.gj.toList := fun x c hx c0 c1 c3 hm => by
    rcases (hkp x hm).1 with e | e | e <;> omega
  have lo : ∀ x c, κ x = c ∧ x < w.heap.size → c ≠ 0 → c ≠ 3 → (if x = p then 7 else if g1 = some x then 3 else κ x) = c ∧ x < w1.heap.size := by
    intro x c hx c0 c3
    rw [if_neg (fun e => by rw [e] at hx; omega), if_neg]
    · exact ⟨hx.1, by omega⟩
    · intro e
      rcases hat x e with e2 | e2
      · have := h.sep.gj x e2; omega
      · omega
  have lo0 : ∀ x ∈ U, (if x = p then 7 else if g1 = some x then 3 else κ x) = 0 ∧ x < w1.heap.size := by
    intro x hx
    have h0 := h.sep.U x (List.mem_cons_of_mem _ hx)
    rw [if_neg (fun e => hpu (by rw [← e]; exact hx)), if_neg]
    · exact ⟨h0.1, by omega⟩
    · intro e
      rcases hat x e with e2 | e2
      · have := h.sep.gj x e2; omega
      · omega
  refine ⟨L', ⟨fun x => if x = p then 7 else if g1 = some x then 3 else κ x, VS, VW, VJ1, VD, MV, AV, l, ⟨lo _ _ h.sep.b (by decide) (by decide), lo _ _ h.sep.gw (by decide) (by decide), fun x e => ?_, fun x e => lo _ _ (h.sep.gd x e) (by decide) (by decide), fun x e => lo _ _ (h.sep.ga x e) (by decide) (by decide), fun x e => lo _ _ (h.sep.gm x e) (by decide) (by decide), fun x e => ?_, fun x e => lo _ _ (h.sep.az x e) (by decide) (by decide), ?_, h.sep.an, lo0⟩,
    ?_, h.sh.kp k hV' hS', ⟨k.own h.wh.1 (fun x e => ?_), h.wh.2⟩, hq, h.dn.kp k (fun x e => ne _ _ (h.sep.gd x e).1 (by decide) (by decide) (by decide)) hV' hS', ?_, fun i j2 q h1 h2 => ?_, h.al, fun i a q h1 h2 => (h.aa i a q h1 h2).kp k (ne _ _ (h.sep.az q (List.mem_of_getElem? h2)).1 (by decide) (by decide) (by decide)) hV' hS',
    ⟨k.own h.aq.1 (fun x e => ne _ _ (h.sep.ga x (by rw [← h.aq.2]; exact e)).1 (by decide) (by decide) (by decide)), h.aq.2⟩, ⟨k.own h.mq.1 (fun x e => ne _ _ (h.sep.gm x (by rw [← h.mq.2.1]; exact e)).1 (by decide) (by decide) (by decide)), h.mq.2⟩, h.no⟩, rfl, hgr⟩
  · have e : g1 = some x := e
    show (if x = p then 7 else if g1 = some x then 3 else κ x) = 3 ∧ x < w1.heap.size
    rw [if_neg, if_pos e]
    · exact ⟨rfl, hq.lt x e⟩
    · intro e2
      rcases hat x e with e3 | e3
      · have := h.sep.gj x e3
        rw [e2] at this
        omega
      · rw [e2] at e3
        omega
  · have e : x ∈ L.js ++ [p] := e
    rcases List.mem_append.1 e with e2 | e2
    · exact lo _ _ (h.sep.js x e2) (by decide) (by decide)
    · have e3 : x = p := by simpa using e2
      show (if x = p then 7 else if g1 = some x then 3 else κ x) = 7 ∧ x < w1.heap.size
      rw [if_pos e3, e3]
      exact ⟨rfl, by omega⟩
  · show (L.js ++ [p]).Nodup
    rw [List.nodup_append]
    refine ⟨h.sep.jn, by simp, fun x hx y hy => ?_⟩
    have := h.sep.js x hx
    simp at hy
    intro e
    rw [e, hy] at this
    omega
  · have e : nextJ (gives s j) = nextJ s + 1 := by simp [nextJ, gives]; omega
    rw [e]
    exact hb
  · rw [h.wh.2] at e
    cases e
    exact ne _ _ h.sep.gw.1 (by decide) (by decide) (by decide)
  · show (L.js ++ [p]).length = (s.jobs ++ [j]).length
    rw [List.length_append, List.length_append, h.jl]
    rfl
  · have h1 : (s.jobs ++ [j])[i]? = some j2 := h1
    have h2 : (L.js ++ [p])[i]? = some q := h2
    by_cases hi : i < s.jobs.length
    · rw [List.getElem?_append_left hi] at h1
      rw [List.getElem?_append_left (by rw [h.jl]; exact hi)] at h2
      exact (h.ja i j2 q h1 h2).kp k (ne _ _ (h.sep.js q (List.mem_of_getElem? h2)).1 (by decide) (by decide) (by decide)) hV' hS'
    · have hi2 : i = s.jobs.length := by
        have := (List.getElem?_eq_some_iff.1 h1).1
        rw [List.length_append, List.length_singleton] at this
        omega
      subst hi2
      rw [List.getElem?_append_right (Nat.le_refl _)] at h1
      rw [← h.jl, List.getElem?_append_right (Nat.le_refl _)] at h2
      simp at h1 h2
      subst h1 h2
      have h9 := hj _ hS'
      have e1 : (if s.jobs.length = 0 then MV else .slice none 0 0) = .slice none 0 0 := by
        split
        · rename_i h0
          exact (h.no (hno (List.eq_nil_of_length_eq_zero h0))).2
        · rfl
      have e2 : (if s.jobs.length = 0 then AV else .slice none 0 0) = .slice none 0 0 := by
        split
        · rename_i h0
          exact (h.no (hno (List.eq_nil_of_length_eq_zero h0))).1
        · rfl
      rw [e1, e2]
      exact h9
end Go.Proofs.YtdiljpdohmeceaaGreat.co
