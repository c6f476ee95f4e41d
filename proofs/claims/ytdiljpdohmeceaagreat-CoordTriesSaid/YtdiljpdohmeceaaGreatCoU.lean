/- coord: a job begins: an ask more; what is read of a job. -/
import Derived.Test.YtdiljpdohmeceaaGreatCoT
import Derived.Test.YtdiljpdohmeceaaGreatCoK
import Derived.Test.YtdiljpdohmeceaaGreatBase
namespace Go.Proofs.YtdiljpdohmeceaaGreat.co
open Go.RowKit H O opk frame wir

theorem cvt_str {w : World} {A : Option Addr} {n c : Nat} {zs : List Int} (hz : zs.length = n) (hr : Rd w A (iv .u8 zs)) : (convert 24 9 (.slice A n c)).run Tryz.prog w = .ok (.string (strOfNums zs)) w := by
  by_cases hn : 0 < n
  · obtain ⟨a, rfl, d0⟩ := hr.int 0 (by omega)
    obtain ⟨b, o, s⟩ := a
    obtain rfl : s = none := by simpa [Addr.add] using World.cell?_spot d0
    refine run_convert_bytes_arg w 24 5 Tryz.underlying24 Tryz.underlying5 b o n c zs hz ?_ 9 Tryz.underlying9
    intro i hi
    obtain ⟨_, e, d⟩ := hr.int i (by omega)
    cases e
    rw [Go.WideShapes.add_plain] at d
    rw [d]
    simp [List.getD, show i < zs.length by omega]
  · obtain rfl : n = 0 := by omega
    obtain rfl : zs = [] := List.eq_nil_of_length_eq_zero hz
    rw [run_convert_bytes_string w 24 9 5 _ 0 c Tryz.underlying24 Tryz.underlying5 Tryz.underlying9]
    cases A <;> rfl

/-- the shards below k that a job asks -/
def pre (cf : Cfg) (j : Job) (k : Nat) : List Nat := if j.kind = 4 then List.range k else if shardOf (kb j.key) cf.shards.length < k then [shardOf (kb j.key) cf.shards.length] else []
theorem pre_zero (cf : Cfg) (j : Job) : pre cf j 0 = [] := by
  unfold pre; split
  · rfl
  · rfl
theorem pre_all {cf : Cfg} {j : Job} (h : 0 < cf.shards.length) : pre cf j cf.shards.length = jshards cf j := by
  unfold pre jshards
  split
  · rfl
  · rw [if_pos (shardOf_lt _ h)]
theorem pre_find {cf : Cfg} {j : Job} (k : Nat) (h : j.kind = 4) : pre cf j (k + 1) = pre cf j k ++ [k] := by
  unfold pre
  rw [if_pos h, if_pos h, List.range_succ]
theorem pre_hit {cf : Cfg} {j : Job} {k : Nat} (h : j.kind ≠ 4) (hk : k = shardOf (kb j.key) cf.shards.length) : pre cf j (k + 1) = pre cf j k ++ [k] := by
  unfold pre
  rw [if_neg h, if_neg h, if_pos (by omega), if_neg (by omega), hk]
  rfl
theorem pre_miss {cf : Cfg} {j : Job} {k : Nat} (h : j.kind ≠ 4) (hk : k ≠ shardOf (kb j.key) cf.shards.length) : pre cf j (k + 1) = pre cf j k := by
  unfold pre
  rw [if_neg h, if_neg h]
  by_cases e : shardOf (kb j.key) cf.shards.length < k
  · rw [if_pos e, if_pos (by omega)]
  · rw [if_neg e, if_neg (by omega)]
theorem pre_len (cf : Cfg) (j : Job) (k : Nat) : (pre cf j k).length ≤ k := by
  unfold pre
  split
  · simp
  · split
    · simp; omega
    · simp
theorem pre_mem {cf : Cfg} {j : Job} {k x : Nat} (h : x ∈ pre cf j k) : x < k := by
  unfold pre at h
  split at h
  · simpa using h
  · split at h
    · simp at h; omega
    · simp at h

/-- blocks that a call may have got -/
def Grew (w : World) (L L' : Lay) : Prop := L'.b = L.b ∧ ∀ x ∈ L'.all, x ∈ L.all ∨ w.heap.size ≤ x
theorem Grew.refl (w : World) (L : Lay) : Grew w L L := ⟨rfl, fun _ h => .inl h⟩
theorem Grew.trans {w w1 : World} {L L1 L2 : Lay} (h : Grew w L L1) (k : Grew w1 L1 L2) (hs : w.heap.size ≤ w1.heap.size) : Grew w L L2 :=
  ⟨k.1.trans h.1, fun x hx => (k.2 x hx).elim (fun e => h.2 x e) (fun e => .inr (by omega))⟩
theorem Grew.kp {w w1 w2 : World} {L L1 : Lay} (h : Grew w L L1) (k0 : Kp L.all w w1) (k : Kp L1.all w1 w2) : Kp L.all w w2 := k0.trans k h.2
theorem CoSt.mem_b {L : Lay} : L.b ∈ L.all := Lay.mem.2 (.inl rfl)
theorem CoSt.lt {U : List Nat} {w : World} {L : Lay} {cf : Cfg} {s : Cs} (h : CoSt U w L cf s) : ∀ x ∈ L.all ++ U, x < w.heap.size := by
  obtain ⟨κ, VS, VW, VJ, VD, MV, AV, l, h⟩ := h
  intro x hx
  rcases List.mem_append.1 hx with e | e
  · exact (h.sep.pos e).2
  · exact (h.sep.U x e).2

/-- an ask more -/
theorem CoP.addAsk {U : List Nat} {w w1 : World} {L : Lay} {cf : Cfg} {s : Cs} {κ : Nat → Nat} {VS VW VJ VD MV AV AV1 : Value} {l : List (ByteArray × Int)} (h : CoP U w L cf s κ VS VW VJ VD MV AV l) {j : Job} {r : List Job} {p0 q : Nat} {ps : List Nat} {a : Ask}
    (hj : s.jobs = j :: r) (hjs : L.js = p0 :: ps) (k : Kp (L.b :: p0 :: L.ga.toList) w w1)
    (hb : w1.heap[L.b]? = some (.cells #[.int .i64 (cf.id : Int), .int .i64 (cf.pat : Int), .int .i64 (cf.tries : Int), VS, VW, VJ, .int .i64 (nextJ s : Int), .int .i64 ((s.ctx + 1 : Nat) : Int), VD] 95 (0, 0)))
    (hp : ∀ S2, (∀ x ∈ S2, x ∈ L.all ++ U ∨ w.heap.size ≤ x) → JobAt S2 w1 p0 cf.id s.ended j MV AV1) (hq : ∀ S2, (∀ x ∈ S2, x ∈ L.all ++ U ∨ x = q ∨ AV1.ownBlock = some x) → AskAt S2 w1 q a) (hq0 : w.heap.size ≤ q) (hq1 : q < w1.heap.size)
    (ho : w1.ownsRow 0 97 1 AV1 (L.az.length + 1) (L.az.map ptr ++ [ptr q])) (hat : ∀ x, AV1.ownBlock = some x → (L.ga = some x ∨ w.heap.size ≤ x) ∧ x ≠ q) (hms : a.ms = []) :
    CoP U w1 { L with ga := AV1.ownBlock, az := L.az ++ [q] } cf { s with ctx := s.ctx + 1, asks := s.asks ++ [a] } (fun x => if x = q then 8 else if AV1.ownBlock = some x then 5 else κ x) VS VW VJ VD MV AV1 l := by
  have hs := k.size
  have hp0 := h.sep.js p0 (by rw [hjs]; simp)
  have hkp : ∀ x ∈ L.b :: p0 :: L.ga.toList, (κ x = 1 ∨ x = p0 ∨ κ x = 5) ∧ x ∈ L.all := by
    intro x hx
    rcases List.mem_cons.1 hx with rfl | hx
    · exact ⟨.inl h.sep.b.1, Lay.mem.2 (.inl rfl)⟩
    · rcases List.mem_cons.1 hx with rfl | hx
      · exact ⟨.inr (.inl rfl), Lay.mem.2 (by simp [hjs])⟩
      · have e : L.ga = some x := by simpa using hx
        exact ⟨.inr (.inr (h.sep.ga x e).1), Lay.mem.2 (by simp [e])⟩
  have hV' : ∀ x ∈ L.b :: p0 :: L.ga.toList, x ∈ L.all ++ U ∨ w.heap.size ≤ x := fun x hx => .inl (List.mem_append.2 (.inl (hkp x hx).2))
  have hall : ∀ x ∈ ({ L with ga := AV1.ownBlock, az := L.az ++ [q] } : Lay).all ++ U, x ∈ L.all ++ U ∨ x = q ∨ AV1.ownBlock = some x := by
    intro x hx
    rcases List.mem_append.1 hx with e | e
    · rcases Lay.mem.1 e with e | e | e | e | e | e | e | e
      · exact .inl (List.mem_append.2 (.inl (Lay.mem.2 (by simp_all))))
      · exact .inl (List.mem_append.2 (.inl (Lay.mem.2 (by simp_all))))
      · exact .inl (List.mem_append.2 (.inl (Lay.mem.2 (by simp_all))))
      · exact .inl (List.mem_append.2 (.inl (Lay.mem.2 (by simp_all))))
      · exact .inr (.inr e)
      · exact .inl (List.mem_append.2 (.inl (Lay.mem.2 (by simp_all))))
      · exact .inl (List.mem_append.2 (.inl (Lay.mem.2 (by simp_all))))
      · rcases List.mem_append.1 e with e | e
        · exact .inl (List.mem_append.2 (.inl (Lay.mem.2 (by simp_all))))
        · exact .inr (.inl (by simpa using e))
    · exact .inl (List.mem_append.2 (.inr e))
  have hS' : ∀ x ∈ ({ L with ga := AV1.ownBlock, az := L.az ++ [q] } : Lay).all ++ U, x ∈ L.all ++ U ∨ w.heap.size ≤ x := by
    intro x hx
    rcases hall x hx with e | e | e
    · exact .inl e
    · exact .inr (by omega)
    · rcases (hat x e).1 with e2 | e2
      · exact .inl (List.mem_append.2 (.inl (Lay.mem.2 (by simp [e2]))))
      · exact .inr e2
  have ne : ∀ x c, κ x = c → c ≠ 1 → c ≠ 7 → c ≠ 5 → x ∉ L.b :: p0 :: L.ga.toList := fun x c hx c1 c7 c5 hm => by
    rcases (hkp x hm).1 with e | rfl | e <;> omega
  have κ' : ∀ x c, κ x = c ∧ x < w.heap.size → c ≠ 5 → (if x = q then 8 else if AV1.ownBlock = some x then 5 else κ x) = c ∧ x < w1.heap.size := by
    intro x c hx hc
    rw [if_neg (by omega), if_neg]
    · exact ⟨hx.1, by omega⟩
    · intro e
      rcases (hat x e).1 with e2 | e2
      · have := (h.sep.ga x e2).1; omega
      · omega
  refine ⟨⟨κ' _ _ h.sep.b (by decide), κ' _ _ h.sep.gw (by decide), fun x e => κ' _ _ (h.sep.gj x e) (by decide), fun x e => κ' _ _ (h.sep.gd x e) (by decide), fun x e => ?_, fun x e => κ' _ _ (h.sep.gm x e) (by decide), fun x e => κ' _ _ (h.sep.js x e) (by decide), fun x e => ?_, h.sep.jn, ?_, fun x e => κ' _ _ (h.sep.U x e) (by decide)⟩,
    hb, h.sh.kp k hV' hS', ⟨k.own h.wh.1 (fun x e => ?_), h.wh.2⟩, h.jq.kp k (fun x e => ne _ _ (h.sep.gj x e).1 (by decide) (by decide) (by decide)), h.dn.kp k (fun x e => ne _ _ (h.sep.gd x e).1 (by decide) (by decide) (by decide)) hV' hS', h.jl,
    fun i j2 p h1 h2 => ?_, by show (L.az ++ [q]).length = (s.asks ++ [a]).length; rw [List.length_append, List.length_append, h.al]; rfl, fun i a2 p h1 h2 => ?_, ⟨?_, rfl⟩, ⟨k.own h.mq.1 (fun x e => ne _ _ (h.sep.gm x (by rw [← h.mq.2.1]; exact e)).1 (by decide) (by decide) (by decide)), h.mq.2.1, ?_⟩, fun e => ?_⟩
  · show (if x = q then 8 else if AV1.ownBlock = some x then 5 else κ x) = 5 ∧ x < w1.heap.size
    have e' : AV1.ownBlock = some x := e
    rw [if_neg (hat x e').2, if_pos e']
    exact ⟨rfl, own_lt ho x e'⟩
  · show (if x = q then 8 else if AV1.ownBlock = some x then 5 else κ x) = 8 ∧ x < w1.heap.size
    have e' : x ∈ L.az ++ [q] := e
    rcases List.mem_append.1 e' with e2 | e2
    · exact κ' _ _ (h.sep.az x e2) (by decide)
    · have : x = q := by simpa using e2
      rw [if_pos this]
      exact ⟨rfl, by omega⟩
  · show (L.az ++ [q]).Nodup
    rw [List.nodup_append]
    refine ⟨h.sep.an, by simp, fun x hx y hy => ?_⟩
    have := (h.sep.az x hx).2
    simp at hy
    omega
  · rw [h.wh.2] at e
    cases e
    exact ne _ _ h.sep.gw.1 (by decide) (by decide) (by decide)
  · by_cases e : i = 0
    · subst e
      have e1 : s.jobs[0]? = some j2 := h1
      rw [hj] at e1
      have e2 : L.js[0]? = some p := h2
      rw [hjs] at e2
      cases e1
      cases e2
      exact hp _ hS'
    · have hh := h.ja i j2 p h1 h2
      rw [if_neg e, if_neg e] at hh ⊢
      refine hh.kp k ?_ hV' hS'
      intro hm
      have h7 := h.sep.js p (List.mem_of_getElem? h2)
      rcases (hkp p hm).1 with e3 | e3 | e3
      · omega
      · have := nodup_idx h.sep.jn h2 (show L.js[0]? = some p by rw [hjs, e3]; rfl)
        omega
      · omega
  · have h1 : (s.asks ++ [a])[i]? = some a2 := h1
    have h2 : (L.az ++ [q])[i]? = some p := h2
    by_cases hi : i < s.asks.length
    · rw [List.getElem?_append_left hi] at h1
      rw [List.getElem?_append_left (by rw [h.al]; exact hi)] at h2
      refine (h.aa i a2 p h1 h2).kp k (ne _ _ (h.sep.az p (List.mem_of_getElem? h2)).1 (by decide) (by decide) (by decide)) hV' hS'
    · have hi2 : i = s.asks.length := by
        have := (List.getElem?_eq_some_iff.1 h1).1
        rw [List.length_append, List.length_singleton] at this
        omega
      subst hi2
      rw [List.getElem?_append_right (Nat.le_refl _)] at h1
      rw [← h.al, List.getElem?_append_right (Nat.le_refl _)] at h2
      simp at h1 h2
      subst h1 h2
      exact hq _ hall
  · show w1.ownsRow 0 97 1 AV1 (L.az ++ [q]).length ((L.az ++ [q]).map ptr)
    rw [List.length_append, List.map_append]
    exact ho
  · show l.Perm ((s.asks ++ [a]).flatMap (·.ms))
    rw [List.flatMap_append, List.flatMap_singleton, hms, List.append_nil]
    exact h.mq.2.2
  · have e : s.asks ++ [a] = [] := e
    simp at e
end Go.Proofs.YtdiljpdohmeceaaGreat.co
