/- coord: what is sent: (*Coord).sends, (*Coord).tried. -/
import Derived.Test.YtdiljpdohmeceaaGreatCoH
import Derived.Test.YtdiljpdohmeceaaGreatCoB
import Derived.Deep.RegionHeld3
import Derived.Laws.ResultCell
namespace Go.Proofs.YtdiljpdohmeceaaGreat.co
open Go.RowKit H O opk frame wir

/-- a message's block -/
def M3 (w : World) (R : Nat) (a b v : Value) : Prop := w.heap[R]? = some (.cells #[a, b, v] 44)
theorem M3.kp {S : List Nat} {w w1 : World} {R : Nat} {a b v : Value} (h : M3 w R a b v) (hk : Kp S w w1) (hb : R ∉ S) : M3 w1 R a b v := hk.blk h hb
theorem M3.set {w : World} {R : Nat} {a b v : Value} (h : M3 w R a b v) (a2 b2 v2 : Value) :
    M3 (((w.setCell ⟨R, 0, none⟩ a2).setCell ⟨R, 1, none⟩ b2).setCell ⟨R, 2, none⟩ v2) R a2 b2 v2 ∧ Kp [R] w (((w.setCell ⟨R, 0, none⟩ a2).setCell ⟨R, 1, none⟩ b2).setCell ⟨R, 2, none⟩ v2) := by
  have e1 : M3 (w.setCell ⟨R, 0, none⟩ a2) R a2 b v := heap_setCell_same w R 0 _ _ a2 h
  have e2 : M3 ((w.setCell ⟨R, 0, none⟩ a2).setCell ⟨R, 1, none⟩ b2) R a2 b2 v := heap_setCell_same _ R 1 _ _ b2 e1
  exact ⟨heap_setCell_same _ R 2 _ _ v2 e2, (((Kp.refl _ w).setCell (.inl (by simp)) _).setCell (.inl (by simp)) _).setCell (.inl (by simp)) _⟩
theorem M3.res {fn : Func} {tmps : Array Value} {w : World} {R : Nat} {a b v : Value} (h : M3 w R a b v) (hf : fn.results = #[.cell 4 44]) (h2 : tmps.getD 4 undef = .pointer (some ⟨R, 0, none⟩)) :
    (results fn tmps).run Tryz.prog w = .ok (.agg #[a, b, v]) w :=
  results_cell_row hf tmps w R _ _ (0, 0) _ h2 h Tryz.underlying44 rfl (by kernel_rfl)

/-- a row's own row, its address written out -/
theorem ri_at {S : List Nat} {w : World} {A : Option Addr} {l : List (List Int)} (h : Ri S w A l) (j : Nat) (hj : j < l.length) : ∃ b o Aj cj, A = some ⟨b, o, none⟩ ∧ b ∉ S ∧ w.cell? ⟨b, o + j, none⟩ = some (.slice Aj l[j].length cj) ∧ l[j].length ≤ cj ∧ RdS S w Aj (iv .i64 l[j]) := by
  obtain ⟨a, Aj, cj, ha, h0, c0, h1, _, h2⟩ := h j hj
  obtain ⟨z, _, _, hz, _, cz, _⟩ := h 0 (by omega)
  rw [ha] at hz
  cases hz
  obtain ⟨b, o, s⟩ := a
  obtain rfl : s = none := by simpa [Addr.add] using World.cell?_spot cz
  rw [Go.WideShapes.add_plain] at c0
  exact ⟨b, o, Aj, cj, ha, h0, c0, h1, h2⟩

theorem nodup_idx {l : List Nat} (h : l.Nodup) {i j x : Nat} (hi : l[i]? = some x) (hj : l[j]? = some x) : i = j := by
  obtain ⟨l1, e1⟩ := List.getElem?_eq_some_iff.1 hi
  obtain ⟨l2, e2⟩ := List.getElem?_eq_some_iff.1 hj
  have hp := List.pairwise_iff_getElem.1 h
  rcases Nat.lt_trichotomy i j with e | e | e
  · exact absurd (e1.trans e2.symm) (hp i j l1 l2 e)
  · exact e
  · exact absurd (e2.trans e1.symm) (hp j i l2 l1 e)
/-- where an ask goes: what the walk reads -/
theorem CoP.dest {U : List Nat} {w : World} {L : Lay} {cf : Cfg} {s : Cs} {κ : Nat → Nat} {VS VW VJ VD MV AV : Value} {l : List (ByteArray × Int)} (h : CoP U w L cf s κ VS VW VJ VD MV AV l) (ok : CsOk cf s) {sh : Nat} (hs : sh < cf.shards.length) :
    ∃ (b o cS Ab Ao nj cj cw wi : Nat), VS = .slice (some ⟨b, o, none⟩) cf.shards.length cS ∧ b ∉ L.all ++ U ∧ w.cell? ⟨b, o + sh, none⟩ = some (.slice (some ⟨Ab, Ao, none⟩) nj cj) ∧ Ab ∉ L.all ++ U ∧
      VW = .slice (some ⟨L.gw, 0, none⟩) s.whom.length cw ∧ w.cell? ⟨L.gw, sh, none⟩ = some (.int .i64 (wi : Int)) ∧ w.frozen? ⟨L.gw, sh, none⟩ = false ∧ s.whom.getD sh 0 = wi ∧ wi < nj ∧ nj ≤ 7 ∧ (cf.shards.getD sh []).length = nj ∧
      (∀ k, k < nj → w.cell? ⟨Ab, Ao + k, none⟩ = some (.int .i64 ((cf.shards.getD sh []).getD k 0))) := by
  obtain ⟨A, cS, rfl, hri, _, _, _⟩ := h.sh
  obtain ⟨b, o, Aj, cj, rfl, hb, c0, _, hrd⟩ := ri_at hri sh hs
  have hw : sh < s.whom.length := by rw [ok.wlen]; exact hs
  have hlt := ok.whom sh hw hs
  have hg := (ok.cfg.grp _ (List.getElem_mem hs)).1
  have e1 : cf.shards.getD sh [] = cf.shards[sh] := by simp [List.getD, hs]
  have e2 : s.whom.getD sh 0 = s.whom[sh] := by simp [List.getD, hw]
  obtain ⟨ho, hbk⟩ := h.wh
  obtain ⟨g, cw, rfl, _, _⟩ := own_form ho (by omega)
  have hgw : g = L.gw := by simpa [Value.ownBlock] using hbk
  subst hgw
  have cw1 := ho.cellAt sh (by omega)
  rw [show (iv .i64 (s.whom.map fun (n : Nat) => (n : Int)))[sh]? = some (.int .i64 (s.whom[sh] : Int)) from by simp [iv, hw]] at cw1
  obtain ⟨b2, o2, rfl, c2⟩ := int_at hrd.rd 0 (by omega)
  obtain ⟨a', ha', hn', _⟩ := hrd 0 _ (iv_get .i64 cf.shards[sh] 0 (by omega))
  cases ha'
  refine ⟨b, o, cS, b2, o2, cf.shards[sh].length, cj, cw, s.whom[sh], rfl, hb, c0, hn', rfl, cw1, ho.frozenAt sh, e2, hlt, hg.2, by rw [e1], fun k hk => ?_⟩
  obtain ⟨b3, o3, e3, c3⟩ := int_at hrd.rd k hk
  cases e3
  rw [c3, e1]
  simp [List.getD, hk]

/-- an ask turns -/
theorem CoP.ask {U : List Nat} {w w1 : World} {L : Lay} {cf : Cfg} {s : Cs} {κ : Nat → Nat} {VS VW VJ VD MV AV : Value} {l : List (ByteArray × Int)} (h : CoP U w L cf s κ VS VW VJ VD MV AV l) {i p : Nat} {a a' : Ask} (hp : L.az[i]? = some p) (ha : s.asks[i]? = some a)
    (k : Kp [p] w w1) (hn : AskAt (L.all ++ U) w1 p a') (hms : a'.ms = a.ms) : CoP U w1 L cf { s with asks := s.asks.set i a' } κ VS VW VJ VD MV AV l := by
  have hk8 := h.sep.az p (List.mem_of_getElem? hp)
  have hpa : p ∈ L.all := Lay.mem.2 (by simp [List.mem_of_getElem? hp])
  have hV' : ∀ x ∈ [p], x ∈ L.all ++ U ∨ w.heap.size ≤ x := fun x hx => by
    simp only [List.mem_singleton] at hx
    subst hx
    exact .inl (List.mem_append.2 (.inl hpa))
  have hS' : ∀ x ∈ L.all ++ U, x ∈ L.all ++ U ∨ w.heap.size ≤ x := fun x hx => .inl hx
  have ne : ∀ x c, κ x = c → c ≠ 8 → x ∉ [p] := fun x c hx hc hm => by
    simp only [List.mem_singleton] at hm
    subst hm
    omega
  have hlen : i < s.asks.length := (List.getElem?_eq_some_iff.1 ha).1
  have hai : s.asks[i] = a := (List.getElem?_eq_some_iff.1 ha).2
  refine ⟨h.sep.grow k.size, k.blk h.hd (ne _ _ h.sep.b.1 (by decide)), h.sh.kp k hV' hS', ⟨k.own h.wh.1 (fun x e => ?_), h.wh.2⟩,
    h.jq.kp k (fun x e => ne _ _ (h.sep.gj x e).1 (by decide)), h.dn.kp k (fun x e => ne _ _ (h.sep.gd x e).1 (by decide)) hV' hS', h.jl,
    fun i j q h1 h2 => (h.ja i j q h1 h2).kp k (ne _ _ (h.sep.js q (List.mem_of_getElem? h2)).1 (by decide)) hV' hS', by rw [List.length_set]; exact h.al, fun i2 a2 p2 h1 h2 => ?_,
    ⟨k.own h.aq.1 (fun x e => ne _ _ (h.sep.ga x (by rw [← h.aq.2]; exact e)).1 (by decide)), h.aq.2⟩, ⟨k.own h.mq.1 (fun x e => ne _ _ (h.sep.gm x (by rw [← h.mq.2.1]; exact e)).1 (by decide)), h.mq.2.1, ?_⟩, ?_⟩
  · rw [h.wh.2] at e
    cases e
    exact ne _ _ h.sep.gw.1 (by decide)
  · by_cases e : i2 = i
    · subst e
      rw [hp] at h2
      cases h2
      rw [show (s.asks.set i2 a')[i2]? = some a' from by simp [hlen]] at h1
      cases h1
      exact hn
    · have h1' : s.asks[i2]? = some a2 := by
        have h1 : (s.asks.set i a')[i2]? = some a2 := h1
        rwa [List.getElem?_set_ne (by omega)] at h1
      refine (h.aa i2 a2 p2 h1' h2).kp k (fun hm => ?_) hV' hS'
      simp only [List.mem_singleton] at hm
      subst hm
      exact e (nodup_idx h.sep.an h2 hp)
  · have e : (s.asks.set i a').flatMap (·.ms) = s.asks.flatMap (·.ms) := by
      have e1 : (s.asks.set i a').map (·.ms) = s.asks.map (·.ms) := by
        rw [List.map_set, hms]
        refine List.ext_getElem? fun n => ?_
        by_cases en : n = i
        · subst en
          rw [List.getElem?_set_self (by simpa using hlen)]
          simp [hlen, hai]
        · rw [List.getElem?_set_ne (by omega)]
      rw [List.flatMap_def, List.flatMap_def, e1]
    show l.Perm ((s.asks.set i a').flatMap (·.ms))
    rw [e]
    exact h.mq.2.2
  · intro e
    refine h.no ?_
    have e : s.asks.set i a' = [] := e
    have := congrArg List.length e
    rw [List.length_set] at this
    exact List.eq_nil_of_length_eq_zero this
end Go.Proofs.YtdiljpdohmeceaaGreat.co
