/- coord: messages in a row; an append at a step of a region; whom to ask turns; a job ends. -/
import Derived.Test.YtdiljpdohmeceaaGreatCoW
import Derived.Deep.RegionLaw
namespace Go.Proofs.YtdiljpdohmeceaaGreat.co
open Go.RowKit H O opk frame wir

/-- append onto a row of the call's own, at a step of a region that draws its order -/
theorem step_app {P : Program} {w : World} {ops : Array Oper} {o : Oper} {a : Act} {K : Act → World → Prop} {Q : Exit → Act → World → Prop} {E : Prop} (hgd : o.guard = none) (s x : Operand) (t : TypeId)
    (ho : o.op = .call { callee := .builtin .append, args := #[s, x], argTypes := #[t, t] }) (e : TypeId) (z : Value) (size bytes : Nat) (ht : P.underlying t = some (.slice e))
    (hI : (P.info? e).map (fun i => (i.zero, i.size, i.bytes)) = some (some z, size, bytes)) (hzs : z.cells.size = size) (hsz : 0 < size)
    (v : Value) (n : Nat) (xs : List Value) (hs : a.eval s = v) (hown : w.ownsRow 0 e size v n xs)
    (A : Option Addr) (m c : Nat) (news : List Value) (hx : a.eval x = .slice A m c) (hl : news.length = m * size) (hrd : Rd w A news) (hnil : A = none → c = 0) (h1 : ∀ u ∈ news, u.oneCell' = true)
    (hb : (n + m) * bytes ≤ 140737488355328) (hm : n + m ≤ 140737488355328)
    (h : ∀ v' w', w'.ownsRow 0 e size v' (n + m) (xs ++ news) → Kp v.ownBlock.toList w w' → At w.heap.size v.ownBlock v'.ownBlock → K (a.put o.dst v') w') :
    if Region.wanted o (yielded ops a.tmps) = true then Oper.wp P o a w K Q else E := by
  have hw : Region.wanted o (yielded ops a.tmps) = true := by simp [Region.wanted, hgd]
  rw [if_pos hw]
  obtain ⟨v', w', hr, h2, h3, h4, h5⟩ := run_app (P := P) w t o.type e z size bytes ht hI hzs hsz v n xs hown A m c news hl hrd hnil h1 hb hm
  unfold Oper.wp execOp
  simp only [ho, resolve, invoke, builtin, Sem.run_bind, Sem.run_pure, Result.andThen_ok, List.map_toArray, List.map_cons, List.map_nil, hs, hx, hr]
  exact h v' w' h2 h3 h4

theorem info_msg : (Tryz.prog.info? 44).map (fun i => (i.zero, i.size, i.bytes)) = some (some (.agg #[.int .i64 0, .int .i64 0, .slice none 0 0]), 3, 40) := by kernel_rfl
theorem info_res : (Tryz.prog.info? 61).map (fun i => (i.zero, i.size, i.bytes)) = some (some (.agg #[.int .i64 0, .int .i64 0, .bool false, .bool false, .slice none 0 0, .slice none 0 0]), 6, 72) := by kernel_rfl

/-- messages' cells -/
def MsOk (S : List Nat) (w : World) : List Msg → List Value → Prop
  | [], vs => vs = []
  | m :: l, vs => ∃ dv b, vs = [.int .i64 m.frm, .int .i64 m.dst, dv] ++ b ∧ BSl S w dv m.data ∧ MsOk S w l b
theorem MsOk.kp {S S2 V : List Nat} {w w1 : World} (k : Kp V w w1) (hV : ∀ x ∈ V, x ∈ S ∨ w.heap.size ≤ x) (hS : ∀ x ∈ S2, x ∈ S ∨ w.heap.size ≤ x) : ∀ {l : List Msg} {vs : List Value}, MsOk S w l vs → MsOk S2 w1 l vs
  | [], _, h => h
  | _ :: _, _, ⟨a, b, h1, h2, h3⟩ => ⟨a, b, h1, h2.kp k hV hS, MsOk.kp k hV hS h3⟩
theorem MsOk.snoc {S : List Nat} {w : World} {m : Msg} {dv : Value} (hr : BSl S w dv m.data) : ∀ {l : List Msg} {vs : List Value}, MsOk S w l vs → MsOk S w (l ++ [m]) (vs ++ [.int .i64 m.frm, .int .i64 m.dst, dv])
  | [], vs, h => by
    obtain rfl : vs = [] := h
    exact ⟨dv, [], by simp, hr, rfl⟩
  | _ :: _, _, ⟨p, q, h1, h2, h3⟩ => by
    subst h1
    exact ⟨p, q ++ _, by simp, h2, MsOk.snoc hr h3⟩
/-- messages in a row of a call's own, off the blocks S -/
def OutI (S : List Nat) (w : World) (v : Value) (ms : List Msg) : Prop := ∃ vs, w.ownsRow 0 44 3 v ms.length vs ∧ (∀ g, v.ownBlock = some g → g ∉ S) ∧ MsOk (v.ownBlock.toList ++ S) w ms vs
theorem OutI.nil (S : List Nat) (w : World) : OutI S w (.slice none 0 0) [] := ⟨[], World.ownsRow_nil w 0 _ 3, by simp [Value.ownBlock], rfl⟩
theorem OutI.kp {S S2 V : List Nat} {w w1 : World} {v : Value} {ms : List Msg} (h : OutI S w v ms) (k : Kp V w w1) (hV : ∀ x ∈ V, x ∈ S ∨ w.heap.size ≤ x) (hS : ∀ x ∈ S2, x ∈ S ∨ w.heap.size ≤ x) : OutI S2 w1 v ms := by
  obtain ⟨vs, h1, h2, h3⟩ := h
  refine ⟨vs, k.own h1 (fun g hg hm => ?_), fun g hg hm => ?_, h3.kp k (fun x hx => (hV x hx).imp (fun e => List.mem_append.2 (.inr e)) id) (fun x hx => ?_)⟩
  · have := own_lt h1 g hg
    rcases hV g hm with e | e
    · exact h2 g hg e
    · omega
  · have := own_lt h1 g hg
    rcases hS g hm with e | e
    · exact h2 g hg e
    · omega
  · rcases List.mem_append.1 hx with e | e
    · exact .inl (List.mem_append.2 (.inl e))
    · exact (hS x e).imp (fun e => List.mem_append.2 (.inr e)) id
/-- one message more: w the world behind the making of the message, w2 behind the append of the literal -/
theorem OutI.snoc {S : List Nat} {w w2 : World} {v v2 dv : Value} {ms : List Msg} {vs : List Value} {m : Msg} {n : Nat} (hn : ms.length = n) (hS : ∀ x ∈ S, x < w.heap.size) (hv : ∀ g, v.ownBlock = some g → g ∉ S) (hm : MsOk (v.ownBlock.toList ++ S) w ms vs) (hd : BSl (v.ownBlock.toList ++ S) w dv m.data)
    (o2 : w2.ownsRow 0 44 3 v2 (n + 1) (vs ++ [.int .i64 m.frm, .int .i64 m.dst, dv])) (k2 : Kp v.ownBlock.toList (w.alloc (.cells #[.int .i64 m.frm, .int .i64 m.dst, dv] 44)) w2) (a2 : At (w.heap.size + 1) v.ownBlock v2.ownBlock) : OutI S w2 v2 (ms ++ [m]) := by
  have hg : ∀ g, v2.ownBlock = some g → (v.ownBlock = some g ∨ w.heap.size ≤ g) ∧ g ∉ S := by
    intro g e
    rcases a2 with e2 | ⟨y, e2, hy⟩
    · rw [e2] at e
      exact ⟨.inl e, hv g e⟩
    · rw [e2] at e
      cases e
      exact ⟨.inr (by omega), fun hm => by have := hS _ hm; omega⟩
  refine ⟨_, by rw [List.length_append, hn]; exact o2, fun g e => (hg g e).2, ?_⟩
  have k1 : Kp v.ownBlock.toList w w2 := ((Kp.refl v.ownBlock.toList w).alloc _).trans k2 (fun x hx => .inl hx)
  have hV : ∀ x ∈ v.ownBlock.toList, x ∈ v.ownBlock.toList ++ S ∨ w.heap.size ≤ x := fun x hx => .inl (List.mem_append.2 (.inl hx))
  have hS2 : ∀ x ∈ v2.ownBlock.toList ++ S, x ∈ v.ownBlock.toList ++ S ∨ w.heap.size ≤ x := by
    intro x hx
    rcases List.mem_append.1 hx with e | e
    · rcases (hg x (by simpa using e)).1 with e2 | e2
      · exact .inl (List.mem_append.2 (.inl (by simp [e2])))
      · exact .inr e2
    · exact .inl (List.mem_append.2 (.inr e))
  exact MsOk.snoc (hd.kp k1 hV hS2) (hm.kp k1 hV hS2)

/-- whom to ask turns -/
theorem CoP.whom {U : List Nat} {w w1 : World} {L : Lay} {cf : Cfg} {s : Cs} {κ : Nat → Nat} {VS VW VJ VD MV AV : Value} {l : List (ByteArray × Int)} (h : CoP U w L cf s κ VS VW VJ VD MV AV l) (sh x cw : Nat) (hVW : VW = .slice (some ⟨L.gw, 0, none⟩) s.whom.length cw) (hsh : sh < s.whom.length) (hw1 : w1 = w.setCell ⟨L.gw, sh, none⟩ (.int .i64 (x : Int))) :
    CoP U w1 L cf { s with whom := s.whom.set sh x } κ VS VW VJ VD MV AV l ∧ Kp [L.gw] w w1 := by
  subst hw1 hVW
  have k : Kp [L.gw] w (w.setCell ⟨L.gw, sh, none⟩ (.int .i64 (x : Int))) := (Kp.refl _ w).setCell (.inl (by simp)) _
  have hV' : ∀ x ∈ [L.gw], x ∈ L.all ++ U ∨ w.heap.size ≤ x := fun x hx => by
    simp only [List.mem_singleton] at hx
    subst hx
    exact .inl (List.mem_append.2 (.inl (Lay.mem.2 (by simp))))
  have hS' : ∀ x ∈ L.all ++ U, x ∈ L.all ++ U ∨ w.heap.size ≤ x := fun x hx => .inl hx
  have ne : ∀ x c, κ x = c → c ≠ 2 → x ∉ [L.gw] := fun x c hx hc hm => by
    simp only [List.mem_singleton] at hm
    subst hm
    have := h.sep.gw
    omega
  obtain ⟨_, _, ho⟩ := own_store h.wh.1 sh hsh (.int .i64 (x : Int))
  have e : (iv .i64 (s.whom.map fun (n : Nat) => (n : Int))).set sh (.int .i64 (x : Int)) = iv .i64 ((s.whom.set sh x).map fun (n : Nat) => (n : Int)) := by
    rw [List.map_set, iv, iv, List.map_set]
  rw [e] at ho
  refine ⟨⟨h.sep.grow k.size, k.blk h.hd (ne _ _ h.sep.b.1 (by decide)), h.sh.kp k hV' hS', ⟨by show World.ownsRow _ 0 _ 1 _ (s.whom.set sh x).length _; rw [List.length_set]; exact ho, h.wh.2⟩,
    h.jq.kp k (fun x e => ne _ _ (h.sep.gj x e).1 (by decide)), h.dn.kp k (fun x e => ne _ _ (h.sep.gd x e).1 (by decide)) hV' hS', h.jl,
    fun i j q h1 h2 => (h.ja i j q h1 h2).kp k (ne _ _ (h.sep.js q (List.mem_of_getElem? h2)).1 (by decide)) hV' hS', h.al, fun i a p h1 h2 => (h.aa i a p h1 h2).kp k (ne _ _ (h.sep.az p (List.mem_of_getElem? h2)).1 (by decide)) hV' hS',
    ⟨k.own h.aq.1 (fun x e => ne _ _ (h.sep.ga x (by rw [← h.aq.2]; exact e)).1 (by decide)), h.aq.2⟩, ⟨k.own h.mq.1 (fun x e => ne _ _ (h.sep.gm x (by rw [← h.mq.2.1]; exact e)).1 (by decide)), h.mq.2.1, h.mq.2.2⟩, h.no⟩, k⟩

/-- a job has ended: w1 behind the append of its result and the two stores -/
theorem CoP.ends {U : List Nat} {w w1 : World} {L : Lay} {cf : Cfg} {s : Cs} {κ : Nat → Nat} {VS VW VJ VD MV AV VJ1 VD1 : Value} {l : List (ByteArray × Int)} (h : CoP U w L cf s κ VS VW VJ VD MV AV l) {j : Job} {jr : List Job} {p0 : Nat} {ps : List Nat} {r : Res}
    (hj : s.jobs = j :: jr) (hjs : L.js = p0 :: ps) (k : Kp (L.b :: p0 :: (L.gd.toList ++ L.gm.toList)) w w1)
    (hb : w1.heap[L.b]? = some (.cells #[.int .i64 (cf.id : Int), .int .i64 (cf.pat : Int), .int .i64 (cf.tries : Int), VS, VW, VJ1, .int .i64 (nextJ s : Int), .int .i64 (s.ctx : Int), VD1] 95 (0, 0)))
    (hq : Que w1 VJ1 L.gj ps) (hat : ∀ x, VD1.ownBlock = some x → L.gd = some x ∨ w.heap.size ≤ x ∧ x < w1.heap.size)
    (hd : ∀ S2, (∀ x ∈ S2, x ∈ L.b :: L.gw :: (L.gj.toList ++ L.js) ++ U ∨ VD1.ownBlock = some x) → DoneAt S2 w1 VD1 VD1.ownBlock (s.done ++ [r])) :
    ∃ L', CoSt U w1 L' cf (endJob s r) ∧ Grew w L L' ∧ L'.js = ps := by
  have hs := k.size
  let L' : Lay := ⟨L.b, L.gw, L.gj, VD1.ownBlock, none, none, ps, []⟩
  have hkp : ∀ x ∈ L.b :: p0 :: (L.gd.toList ++ L.gm.toList), (κ x = 1 ∨ x = p0 ∨ κ x = 4 ∨ κ x = 6) ∧ x ∈ L.all := by
    intro x hx
    rcases List.mem_cons.1 hx with rfl | hx
    · exact ⟨.inl h.sep.b.1, Lay.mem.2 (.inl rfl)⟩
    · rcases List.mem_cons.1 hx with rfl | hx
      · exact ⟨.inr (.inl rfl), Lay.mem.2 (by simp [hjs])⟩
      · rcases List.mem_append.1 hx with hx | hx
        · have e : L.gd = some x := by simpa using hx
          exact ⟨.inr (.inr (.inl (h.sep.gd x e).1)), Lay.mem.2 (by simp [e])⟩
        · have e : L.gm = some x := by simpa using hx
          exact ⟨.inr (.inr (.inr (h.sep.gm x e).1)), Lay.mem.2 (by simp [e])⟩
  have hp7 := h.sep.js p0 (by rw [hjs]; simp)
  have hV' : ∀ x ∈ L.b :: p0 :: (L.gd.toList ++ L.gm.toList), x ∈ L.all ++ U ∨ w.heap.size ≤ x := fun x hx => .inl (List.mem_append.2 (.inl (hkp x hx).2))
  have hall : ∀ x ∈ L'.all, x ∈ L.b :: L.gw :: (L.gj.toList ++ L.js) ∨ VD1.ownBlock = some x := by
    intro x hx
    rcases Lay.mem.1 hx with e | e | e | e | e | e | e | e
    · exact .inl (by simp [show x = L.b from e])
    · exact .inl (by simp [show x = L.gw from e])
    · exact .inl (by simp [show L.gj = some x from e])
    · exact .inr e
    · cases e
    · cases e
    · exact .inl (by simp [hjs, show x ∈ ps from e])
    · cases e
  have hsub : ∀ x ∈ L.b :: L.gw :: (L.gj.toList ++ L.js), x ∈ L.all := by
    intro x hx
    simp only [List.mem_cons, List.mem_append, Option.mem_toList] at hx
    rcases hx with e | e | e | e
    · exact Lay.mem.2 (.inl e)
    · exact Lay.mem.2 (.inr (.inl e))
    · exact Lay.mem.2 (by simp [e])
    · exact Lay.mem.2 (by simp [e])
  have hgr : ∀ x ∈ L'.all, x ∈ L.all ∨ w.heap.size ≤ x := by
    intro x hx
    rcases hall x hx with e | e
    · exact .inl (hsub x e)
    · rcases hat x e with e2 | e2
      · exact .inl (Lay.mem.2 (by simp [e2]))
      · exact .inr e2.1
  have hS' : ∀ x ∈ L'.all ++ U, x ∈ L.all ++ U ∨ w.heap.size ≤ x := by
    intro x hx
    rcases List.mem_append.1 hx with e | e
    · exact (hgr x e).imp (fun e => List.mem_append.2 (.inl e)) id
    · exact .inl (List.mem_append.2 (.inr e))
  have ne : ∀ x c, κ x = c → c ≠ 1 → (x ≠ p0 ∧ c ≠ 4 ∧ c ≠ 6) → x ∉ L.b :: p0 :: (L.gd.toList ++ L.gm.toList) := fun x c hx c1 c4 hm => by
    rcases (hkp x hm).1 with e | e | e | e
    · omega
    · exact c4.1 e
    · omega
    · omega
  have lo : ∀ x c, κ x = c ∧ x < w.heap.size → c ≠ 4 → (if VD1.ownBlock = some x then 4 else κ x) = c ∧ x < w1.heap.size := by
    intro x c hx hc
    rw [if_neg]
    · exact ⟨hx.1, by omega⟩
    · intro e
      rcases hat x e with e2 | e2
      · have := h.sep.gd x e2; omega
      · omega
  have hjn := h.sep.jn
  rw [hjs] at hjn
  refine ⟨L', ⟨fun x => if VD1.ownBlock = some x then 4 else κ x, VS, VW, VJ1, VD1, .slice none 0 0, .slice none 0 0, [], ⟨lo _ _ h.sep.b (by decide), lo _ _ h.sep.gw (by decide), fun x e => lo _ _ (h.sep.gj x e) (by decide), fun x e => ?_, fun x e => (by cases e), fun x e => (by cases e), fun x e => lo _ _ (h.sep.js x (by rw [hjs]; exact List.mem_cons_of_mem _ e)) (by decide), fun x e => (by cases e), (List.nodup_cons.1 hjn).2, List.nodup_nil, fun x e => lo _ _ (h.sep.U x e) (by decide)⟩,
    ?_, h.sh.kp k hV' hS', ⟨k.own h.wh.1 (fun x e => ?_), h.wh.2⟩, hq, hd _ (fun x hx => ?_), ?_, fun i j2 p h1 h2 => ?_, rfl, fun i a p h1 h2 => ?_, ⟨World.ownsRow_nil _ 0 _ 1, rfl⟩, ⟨World.ownsRow_nil _ 0 _ 2, rfl, by simp [endJob]⟩, fun _ => ⟨rfl, rfl⟩⟩, ⟨rfl, hgr⟩, rfl⟩
  · show (if VD1.ownBlock = some x then 4 else κ x) = 4 ∧ x < w1.heap.size
    have e' : VD1.ownBlock = some x := e
    rw [if_pos e']
    refine ⟨rfl, ?_⟩
    rcases hat x e' with e2 | e2
    · have := h.sep.gd x e2; omega
    · exact e2.2
  · have e : nextJ (endJob s r) = nextJ s := by simp [nextJ, endJob, hj]; omega
    rw [e]
    exact hb
  · rw [h.wh.2] at e
    cases e
    have := h.sep.gw
    exact ne _ _ h.sep.gw.1 (by decide) ⟨fun e => (by rw [e] at this; omega), by decide, by decide⟩
  · rcases List.mem_append.1 hx with e | e
    · exact (hall x e).imp (fun e => List.mem_append.2 (.inl e)) id
    · exact .inl (List.mem_append.2 (.inr e))
  · show ps.length = s.jobs.tail.length
    have := h.jl
    rw [hj, hjs] at this
    rw [hj]
    simpa using this
  · have h1 : s.jobs.tail[i]? = some j2 := h1
    have h2 : ps[i]? = some p := h2
    rw [hj] at h1
    have hh := h.ja (i + 1) j2 p (by rw [hj]; exact h1) (by rw [hjs]; exact h2)
    rw [if_neg (by omega), if_neg (by omega)] at hh
    have hne : p ≠ p0 := fun e => (List.nodup_cons.1 hjn).1 (by rw [← e]; exact List.mem_of_getElem? h2)
    have h3 := hh.kp k (ne _ _ (h.sep.js p (by rw [hjs]; exact List.mem_cons_of_mem _ (List.mem_of_getElem? h2))).1 (by decide) ⟨hne, by decide, by decide⟩) hV' hS'
    rw [show s.ended + (i + 1) = (endJob s r).ended + i from by show _ = s.ended + 1 + i; omega] at h3
    simpa using h3
  · cases h2
end Go.Proofs.YtdiljpdohmeceaaGreat.co
