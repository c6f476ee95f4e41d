/- coord: what Hear leaves: memory and plain words. -/
import Derived.Test.YtdiljpdohmeceaaGreatHeA
import Derived.Test.YtdiljpdohmeceaaGreatCob
import Derived.Test.YtdiljpdohmeceaaGreatSo
namespace Go.Proofs.YtdiljpdohmeceaaGreat.co
open Go.RowKit H O opk frame wir

theorem AskAt.set8 {S : List Nat} {w : World} {p : Nat} {a : Ask} (h : AskAt S w p a) (hp : p ∈ S) (b : Bool) : AskAt S (w.setCell ⟨p, 8, none⟩ (.bool b)) p { a with answered := b } := by
  obtain ⟨kd, dv, fv, h1, h2⟩ := h
  have k : Kp [p] w (w.setCell ⟨p, 8, none⟩ (.bool b)) := (Kp.refl _ w).setCell (.inl (by simp)) _
  exact ⟨kd, dv, fv, heap_setCell_same w p 8 _ _ _ h1, h2.kp k (by intro x hx; simp at hx; subst hx; exact .inl hp) (fun x hx => .inl hx)⟩
theorem AskAt.ms {S : List Nat} {w : World} {p : Nat} {a : Ask} (h : AskAt S w p a) (m : List (ByteArray × Int)) : AskAt S w p { a with ms := m } := h

theorem flat_set : ∀ (az : List Ask) (i : Nat) (a : Ask) (m : List (ByteArray × Int)), az[i]? = some a → a.ms = [] → ((az.set i { a with ms := m }).flatMap (·.ms)).Perm (az.flatMap (·.ms) ++ m)
  | [], i, a, m, h, _ => by simp at h
  | x :: l, 0, a, m, h, h0 => by
    simp only [List.getElem?_cons_zero, Option.some.injEq] at h
    subst h
    simp only [List.set_cons_zero, List.flatMap_cons, h0, List.nil_append]
    exact List.perm_append_comm
  | x :: l, i + 1, a, m, h, h0 => by
    simp only [List.set_cons_succ, List.flatMap_cons, List.append_assoc]
    exact (flat_set l i a m (by simpa using h) h0).append_left _

/-- places have come -/
theorem CoP.took {U : List Nat} {w w1 : World} {L : Lay} {cf : Cfg} {s : Cs} {κ : Nat → Nat} {VS VW VJ VD MV AV mv' : Value} {l : List (ByteArray × Int)} (h : CoP U w L cf s κ VS VW VJ VD MV AV l) {p0 : Nat} {ps : List Nat} {i : Nat} {a : Ask} {ms : List (ByteArray × Int)} {C : Array Value}
    (hjs : L.js = p0 :: ps) (ha : s.asks[i]? = some a) (hms : a.ms = []) (k : Kp (p0 :: MV.ownBlock.toList) w w1) (hb0 : w.heap[p0]? = some (.cells C 92 (0, 0))) (hb : w1.heap[p0]? = some (.cells (C.setIfInBounds 5 mv') 92 (0, 0)))
    (ho : w1.ownsRow 0 73 2 mv' (l ++ ms).length (mv (l ++ ms))) (hat : At w.heap.size MV.ownBlock mv'.ownBlock) :
    ∃ L', CoSt U w1 L' cf { s with asks := s.asks.set i { a with ms := ms } } ∧ Grew w L L' ∧ L'.js = L.js := by
  have hs := k.size
  have hgm : L.gm = MV.ownBlock := h.mq.2.1.symm
  let L' : Lay := ⟨L.b, L.gw, L.gj, L.gd, L.ga, mv'.ownBlock, L.js, L.az⟩
  have hat2 : ∀ x, mv'.ownBlock = some x → L.gm = some x ∨ w.heap.size ≤ x ∧ x < w1.heap.size := by
    intro x e
    have hx := own_lt ho x e
    rcases hat with e2 | ⟨y, e2, hy⟩
    · left; rw [hgm, ← e2]; exact e
    · rw [e2] at e
      cases e
      exact .inr ⟨hy, hx⟩
  have hp7 := h.sep.js p0 (by rw [hjs]; simp)
  have hkp : ∀ x ∈ p0 :: MV.ownBlock.toList, (x = p0 ∨ κ x = 6) ∧ x ∈ L.all := by
    intro x hx
    rcases List.mem_cons.1 hx with rfl | hx
    · exact ⟨.inl rfl, Lay.mem.2 (by simp [hjs])⟩
    · have e : L.gm = some x := by rw [hgm]; simpa using hx
      exact ⟨.inr (h.sep.gm x e).1, Lay.mem.2 (by simp [e])⟩
  have hV' : ∀ x ∈ p0 :: MV.ownBlock.toList, x ∈ L.all ++ U ∨ w.heap.size ≤ x := fun x hx => .inl (List.mem_append.2 (.inl (hkp x hx).2))
  have hgr : ∀ x ∈ L'.all, x ∈ L.all ∨ w.heap.size ≤ x := by
    intro x hx
    rcases Lay.mem.1 hx with e | e | e | e | e | e | e | e
    · exact .inl (Lay.mem.2 (.inl e))
    · exact .inl (Lay.mem.2 (.inr (.inl e)))
    · exact .inl (Lay.mem.2 (by simp [show L.gj = some x from e]))
    · exact .inl (Lay.mem.2 (by simp [show L.gd = some x from e]))
    · exact .inl (Lay.mem.2 (by simp [show L.ga = some x from e]))
    · rcases hat2 x e with e2 | e2
      · exact .inl (Lay.mem.2 (by simp [e2]))
      · exact .inr e2.1
    · exact .inl (Lay.mem.2 (by simp [show x ∈ L.js from e]))
    · exact .inl (Lay.mem.2 (by simp [show x ∈ L.az from e]))
  have hS' : ∀ x ∈ L'.all ++ U, x ∈ L.all ++ U ∨ w.heap.size ≤ x := by
    intro x hx
    rcases List.mem_append.1 hx with e | e
    · exact (hgr x e).imp (fun e => List.mem_append.2 (.inl e)) id
    · exact .inl (List.mem_append.2 (.inr e))
  have ne : ∀ x c, κ x = c → c ≠ 6 → x ≠ p0 → x ∉ p0 :: MV.ownBlock.toList := fun x c hx hc h0 hm => by
    rcases (hkp x hm).1 with e | e
    · exact h0 e
    · omega
  have np : ∀ x c, κ x = c → c ≠ 7 → x ≠ p0 := fun x c hx hc e => by rw [e] at hx; omega
  have lo : ∀ x c, κ x = c ∧ x < w.heap.size → c ≠ 6 → (if mv'.ownBlock = some x then 6 else κ x) = c ∧ x < w1.heap.size := by
    intro x c hx hc
    rw [if_neg]
    · exact ⟨hx.1, by omega⟩
    · intro e
      rcases hat2 x e with e2 | e2
      · have := h.sep.gm x e2; omega
      · omega
  have hne : s.asks ≠ [] := fun e => by rw [e] at ha; simp at ha
  refine ⟨L', ⟨fun x => if mv'.ownBlock = some x then 6 else κ x, VS, VW, VJ, VD, mv', AV, l ++ ms, ⟨lo _ _ h.sep.b (by decide), lo _ _ h.sep.gw (by decide), fun x e => lo _ _ (h.sep.gj x e) (by decide), fun x e => lo _ _ (h.sep.gd x e) (by decide), fun x e => lo _ _ (h.sep.ga x e) (by decide), fun x e => ?_, fun x e => lo _ _ (h.sep.js x e) (by decide), fun x e => lo _ _ (h.sep.az x e) (by decide), h.sep.jn, h.sep.an, fun x e => lo _ _ (h.sep.U x e) (by decide)⟩,
    k.blk h.hd (ne _ _ h.sep.b.1 (by decide) (np _ _ h.sep.b.1 (by decide))), h.sh.kp k hV' hS', ⟨k.own h.wh.1 (fun x e => ?_), h.wh.2⟩, h.jq.kp k (fun x e => ne _ _ (h.sep.gj x e).1 (by decide) (np _ _ (h.sep.gj x e).1 (by decide))), h.dn.kp k (fun x e => ne _ _ (h.sep.gd x e).1 (by decide) (np _ _ (h.sep.gd x e).1 (by decide))) hV' hS', h.jl,
    fun i2 j2 p h1 h2 => ?_, by show L.az.length = (s.asks.set i _).length; rw [List.length_set]; exact h.al, fun i2 a2 p h1 h2 => ?_, ⟨k.own h.aq.1 (fun x e => ne _ _ (h.sep.ga x (by rw [← h.aq.2]; exact e)).1 (by decide) (np _ _ (h.sep.ga x (by rw [← h.aq.2]; exact e)).1 (by decide))), h.aq.2⟩, ⟨ho, rfl, ?_⟩, fun e => ?_⟩, ⟨rfl, hgr⟩, rfl⟩
  · show (if mv'.ownBlock = some x then 6 else κ x) = 6 ∧ x < w1.heap.size
    have e' : mv'.ownBlock = some x := e
    rw [if_pos e']
    refine ⟨rfl, ?_⟩
    rcases hat2 x e' with e2 | e2
    · have := h.sep.gm x e2; omega
    · exact e2.2
  · rw [h.wh.2] at e
    cases e
    exact ne _ _ h.sep.gw.1 (by decide) (np _ _ h.sep.gw.1 (by decide))
  · by_cases e0 : i2 = 0
    · subst e0
      have h1 : s.jobs[0]? = some j2 := h1
      have h2 : L.js[0]? = some p := h2
      obtain ⟨tv, dv, q1, q2, q3⟩ := h.ja 0 j2 p h1 h2
      rw [hjs] at h2
      simp only [List.getElem?_cons_zero, Option.some.injEq] at h2
      subst h2
      rw [if_pos rfl, if_pos rfl] at q1
      rw [hb0] at q1
      simp only [Option.some.injEq, Obj.cells.injEq, and_true] at q1
      subst q1
      rw [if_pos rfl, if_pos rfl]
      exact ⟨tv, dv, hb, q2.kp k hV' hS', q3.kp k hV' hS'⟩
    · have h3 := h.ja i2 j2 p h1 h2
      rw [if_neg e0, if_neg e0] at h3 ⊢
      have hpp : p ≠ p0 := fun e => e0 (nodup_idx h.sep.jn h2 (show L.js[0]? = some p by rw [hjs, e]; rfl))
      exact h3.kp k (ne _ _ (h.sep.js p (List.mem_of_getElem? h2)).1 (by decide) hpp) hV' hS'
  · have hi := (List.getElem?_eq_some_iff.1 ha).1
    have hk := fun q => (ne _ _ (h.sep.az p (List.mem_of_getElem? h2)).1 (by decide) q)
    have hpn := np p _ (h.sep.az p (List.mem_of_getElem? h2)).1 (by decide)
    by_cases e : i2 = i
    · subst e
      have h1 : (s.asks.set i2 { a with ms := ms })[i2]? = some a2 := h1
      rw [show (s.asks.set i2 { a with ms := ms })[i2]? = some { a with ms := ms } from by simp [hi]] at h1
      cases h1
      exact ((h.aa i2 a p ha h2).kp k (hk hpn) hV' hS').ms ms
    · have h1 : (s.asks.set i { a with ms := ms })[i2]? = some a2 := h1
      rw [List.getElem?_set_ne (by omega)] at h1
      exact (h.aa i2 a2 p h1 h2).kp k (hk hpn) hV' hS'
  · show (l ++ ms).Perm ((s.asks.set i { a with ms := ms }).flatMap (·.ms))
    exact (h.mq.2.2.append_right ms).trans (flat_set s.asks i a ms ha hms).symm
  · exfalso
    have e : s.asks.set i { a with ms := ms } = [] := e
    have := congrArg List.length e
    rw [List.length_set] at this
    exact hne (List.eq_nil_of_length_eq_zero this)

/-- what is in order is the same whatever the order was -/
theorem sortM_perm {l1 l2 : List (ByteArray × Int)} (h : l1.Perm l2) : sortM l1 = sortM l2 := by
  have hs : ∀ l : List (ByteArray × Int), (sortM l).Pairwise (fun a b => mLe a b = true) := fun l => by
    have e : mLe = fun x y => !ltOf so.cmpM y x := by funext x y; exact (so.mLe_eq x y).symm
    unfold sortM
    rw [e]
    refine List.pairwise_mergeSort (fun a b c h1 h2 => ?_) (fun a b => ?_) l
    · simp only [Bool.not_eq_true'] at h1 h2 ⊢
      exact so.swoM.ntrans _ _ _ h2 h1
    · simp only [Bool.or_eq_true, Bool.not_eq_true']
      cases e : ltOf so.cmpM b a with
      | false => exact .inl rfl
      | true => exact .inr (so.swoM.asymmA e)
  have hp : (sortM l1).Perm (sortM l2) := (List.mergeSort_perm _ _).trans (h.trans (List.mergeSort_perm _ _).symm)
  refine List.Perm.eq_of_pairwise (le := fun a b => mLe a b = true) (fun a b _ _ h1 h2 => ?_) (hs l1) (hs l2) hp
  rw [← so.mLe_eq] at h1 h2
  simp only [Bool.not_eq_true'] at h1 h2
  exact so.antM a b h2 h1

/-- which ask is meant -/
def askPr (az : List Ask) (ctx : Int) (k : Nat) : Bool := match az[k]? with
  | some a => !a.answered && decide ((a.ctx : Int) = ctx)
  | none => false
theorem askIx_some {az : List Ask} {ctx : Int} {i : Nat} (h : askIx az ctx = some i) : ∃ a, az[i]? = some a ∧ a.answered = false ∧ (a.ctx : Int) = ctx ∧ IdxR (askPr az ctx) az.length i := by
  unfold askIx at h
  rw [List.findIdx?_eq_some_iff_getElem] at h
  obtain ⟨hi, h1, h2⟩ := h
  simp only [Bool.and_eq_true, Bool.not_eq_true', decide_eq_true_eq] at h1
  refine ⟨az[i], List.getElem?_eq_getElem hi, h1.1, h1.2, .inl ⟨i, hi, ?_, fun k hk => ?_, rfl⟩⟩
  · simp only [askPr, List.getElem?_eq_getElem hi, h1.1, h1.2]
    rfl
  · have := h2 k hk
    simp only [askPr, List.getElem?_eq_getElem (show k < az.length by omega)]
    simpa using this
theorem askIx_none {az : List Ask} {ctx : Int} (h : askIx az ctx = none) : IdxR (askPr az ctx) az.length (-1) := by
  unfold askIx at h
  rw [List.findIdx?_eq_none_iff] at h
  refine .inr ⟨fun k hk => ?_, rfl⟩
  have := h az[k] (List.getElem_mem hk)
  simp only [askPr, List.getElem?_eq_getElem hk]
  simpa using this
theorem idx_ex (pr : Nat → Bool) (n : Nat) : ∃ r, IdxR pr n r := by
  induction n with
  | zero => exact ⟨-1, .inr ⟨fun k hk => by omega, rfl⟩⟩
  | succ n ih =>
    obtain ⟨r, ⟨i, h1, h2, h3, h4⟩ | ⟨h1, h2⟩⟩ := ih
    · exact ⟨r, .inl ⟨i, by omega, h2, h3, h4⟩⟩
    · cases e : pr n with
      | true => exact ⟨(n : Int), .inl ⟨n, by omega, e, h1, rfl⟩⟩
      | false => exact ⟨-1, .inr ⟨fun k hk => by
          by_cases ek : k = n
          · rw [ek]; exact e
          · exact h1 k (by omega), rfl⟩⟩
end Go.Proofs.YtdiljpdohmeceaaGreat.co
