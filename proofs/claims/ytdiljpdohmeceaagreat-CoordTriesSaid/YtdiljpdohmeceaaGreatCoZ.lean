/- coord: (*Coord).Tick: plain words. -/
import Derived.Test.YtdiljpdohmeceaaGreatCoV
import Derived.Test.YtdiljpdohmeceaaGreatCoY
namespace Go.Proofs.YtdiljpdohmeceaaGreat.co
open Go.RowKit H O opk frame wir

theorem newAsk_ok {cf : Cfg} {num : Nat} {j : Job} {t ctx c2 sh : Nat} (hj : JobOk j) (hc : 1 ≤ ctx ∧ ctx ≤ c2) (hs : sh < cf.shards.length) (ht : t ≤ cf.tries) : AskOk cf c2 (newAsk cf num j t ctx sh) := by
  have h1 := jdata_len (cf := cf) (num := num) hj
  have h2 := pay_len 113 [wkind j, (ctx : Int), (sh : Int)] (jdata cf num j) (by simp)
  have h3 := frame_len (p := pay 113 [wkind j, (ctx : Int), (sh : Int)] (jdata cf num j)) (by omega)
  exact ⟨hs, hc, ⟨by show (fEnc _).length ≤ 10000; omega, fEnc_wf (pay_wf (by decide) h1.2)⟩, ht, Nat.zero_le _⟩
theorem jshards_lt {cf : Cfg} {j : Job} (h : 0 < cf.shards.length) : ∀ x ∈ jshards cf j, x < cf.shards.length := by
  intro x hx
  unfold jshards at hx
  split at hx
  · simpa using hx
  · have : x = shardOf (kb j.key) cf.shards.length := by simpa using hx
    rw [this]
    exact shardOf_lt _ h
theorem jshards_len {cf : Cfg} {j : Job} (h : 1 ≤ cf.shards.length) : 1 ≤ (jshards cf j).length ∧ (jshards cf j).length ≤ cf.shards.length := by
  unfold jshards
  split
  · simp; omega
  · simp; omega
theorem mkAsks_ok {cf : Cfg} {num : Nat} {j : Job} {t ctx : Nat} (hj : JobOk j) (hl : 0 < cf.shards.length) (ht : t ≤ cf.tries) : ∀ a ∈ mkAsks cf num j t ctx (jshards cf j), AskOk cf (ctx + (jshards cf j).length) a := by
  intro a ha
  obtain ⟨i, hi, rfl⟩ := List.mem_iff_getElem.1 ha
  rw [mkAsks_len] at hi
  have h1 := mkAsks_get cf num j t ctx (jshards cf j) i hi
  have h2 := (List.getElem?_eq_some_iff.1 h1).2
  rw [h2]
  exact newAsk_ok hj ⟨by omega, by omega⟩ (jshards_lt hl _ (List.getElem_mem hi)) ht
theorem CsOk.asksTo {cf : Cfg} {s : Cs} (h : CsOk cf s) {ctx : Nat} {A : List Ask} (hA : ∀ a ∈ A, AskOk cf ctx a) (h8 : A.length ≤ 8) (hn : s.jobs ≠ []) : CsOk cf { s with ctx := ctx, asks := A } :=
  ⟨h.cfg, h.wlen, h.whom, h.jobs, hA, fun e => absurd e hn, h8⟩
/-- the first k of A1, then A0 -/
def mix (A1 A0 : List Ask) (k : Nat) : List Ask := A1.take k ++ A0.drop k
theorem mix_zero (A1 A0 : List Ask) : mix A1 A0 0 = A0 := by simp [mix]
theorem mix_all {A1 A0 : List Ask} (h : A1.length = A0.length) : mix A1 A0 A1.length = A1 := by rw [mix, List.take_length, List.drop_of_length_le (by omega), List.append_nil]
theorem mix_get {A1 A0 : List Ask} {k : Nat} {a : Ask} (h : A1.length = A0.length) (ha : A0[k]? = some a) : (mix A1 A0 k)[k]? = some a := by
  have hk := (List.getElem?_eq_some_iff.1 ha).1
  rw [mix, List.getElem?_append_right (by simp; omega), List.length_take, Nat.min_eq_left (by omega), List.getElem?_drop]
  simpa using ha
theorem mix_set {A1 A0 : List Ask} {k : Nat} {a : Ask} (h : A1.length = A0.length) (ha : A1[k]? = some a) : (mix A1 A0 k).set k a = mix A1 A0 (k + 1) := by
  obtain ⟨hk, hv⟩ := List.getElem?_eq_some_iff.1 ha
  rw [mix, List.set_append_right _ _ (by rw [List.length_take]; omega), List.length_take, Nat.min_eq_left (by omega), Nat.sub_self, mix, List.take_succ_eq_append_getElem hk, hv, List.append_assoc]
  congr 1
  rw [List.drop_eq_getElem_cons (by omega)]
  rfl
theorem mix_len {A1 A0 : List Ask} (h : A1.length = A0.length) (k : Nat) : (mix A1 A0 k).length = A0.length := by
  rw [mix, List.length_append, List.length_take, List.length_drop]
  omega
theorem mix_mem {A1 A0 : List Ask} {k : Nat} {a : Ask} (h : a ∈ mix A1 A0 k) : a ∈ A1 ∨ a ∈ A0 := by
  rcases List.mem_append.1 h with h | h
  · exact .inl (List.mem_of_mem_take h)
  · exact .inr (List.mem_of_mem_drop h)

theorem tick_none {cf : Cfg} {s : Cs} (h : s.jobs = []) : tick cf s = (s, []) := by simp only [tick, h]
theorem tick_new {cf : Cfg} {s : Cs} {j : Job} {r : List Job} (h : s.jobs = j :: r) (ha : s.asks = []) :
    tick cf s = ({ s with asks := mkAsks cf s.ended j 1 s.ctx (jshards cf j), ctx := s.ctx + (jshards cf j).length }, (mkAsks cf s.ended j 1 s.ctx (jshards cf j)).map (msgOf cf s.whom)) := by
  simp only [tick, h, ha, if_true]
theorem tick_go {cf : Cfg} {s : Cs} {j : Job} {r : List Job} (h : s.jobs = j :: r) (ha : s.asks ≠ []) {wh : List Nat} {az : List Ask} {out : List Msg} (hg : tkGo cf s.asks.length 0 s.whom s.asks [] = (wh, az, out, false)) :
    tick cf s = ({ s with whom := wh, asks := az }, out) := by
  simp only [tick, h, if_neg ha, hg]
theorem tick_end {cf : Cfg} {s : Cs} {j : Job} {r : List Job} (h : s.jobs = j :: r) (ha : s.asks ≠ []) {wh : List Nat} {az : List Ask} {out : List Msg} (hg : tkGo cf s.asks.length 0 s.whom s.asks [] = (wh, az, out, true)) :
    tick cf s = (endErr { s with whom := wh, asks := az } 14, out) := by
  simp only [tick, h, if_neg ha, hg]
theorem nextW_len (cf : Cfg) (wh : List Nat) (s : Nat) : (nextW cf wh s).length = wh.length := by simp [nextW]
theorem CsOk.next {cf : Cfg} {s : Cs} (h : CsOk cf s) {sh : Nat} (hs : sh < cf.shards.length) : CsOk cf { s with whom := nextW cf s.whom sh } := by
  refine ⟨h.cfg, by show (nextW _ _ _).length = _; rw [nextW_len]; exact h.wlen, fun i h1 h2 => ?_, h.jobs, h.asks, h.none, h.few⟩
  have h1' : i < (s.whom.set sh ((s.whom.getD sh 0 + 1) % (cf.shards.getD sh []).length)).length := h1
  show (s.whom.set sh ((s.whom.getD sh 0 + 1) % (cf.shards.getD sh []).length))[i]'h1' < _
  rw [List.getElem_set]
  split
  · rename_i e
    subst e
    rw [show cf.shards.getD sh [] = cf.shards[sh] from by simp [List.getD, hs]]
    exact Nat.mod_lt _ (by have := (h.cfg.grp _ (List.getElem_mem hs)).1; omega)
  · exact h.whom i (by rw [nextW_len] at h1; exact h1) h2

/-- what a Tick leaves -/
def TickPost (U : List Nat) (L : Lay) (cf : Cfg) (r : Cs × List Msg) (w : World) (e : Ending) (w' : World) : Prop :=
  ∃ L' v, e = .returned v ∧ CoSt U w' L' cf r.1 ∧ OutI (L'.all ++ U) w' v r.2 ∧ Grew w L L' ∧ Kp L.all w w'
theorem CoSt.askPtr {U : List Nat} {w : World} {L : Lay} {cf : Cfg} {s : Cs} (h : CoSt U w L cf s) {ga k p : Nat} (hg : L.ga = some ga) (hp : L.az[k]? = some p) : w.cell? ⟨ga, k, none⟩ = some (ptr p) := by
  obtain ⟨κ, VS, VW, VJ, VD, MV, AV, l, h⟩ := h
  have hk := (List.getElem?_eq_some_iff.1 hp).1
  obtain ⟨g, c, rfl, _⟩ := own_form h.aq.1 (by omega)
  have e := h.aq.2
  rw [hg] at e
  obtain rfl : g = ga := by simpa [Value.ownBlock] using e
  rw [h.aq.1.cellAt k (by omega)]
  simp [hp]
end Go.Proofs.YtdiljpdohmeceaaGreat.co
