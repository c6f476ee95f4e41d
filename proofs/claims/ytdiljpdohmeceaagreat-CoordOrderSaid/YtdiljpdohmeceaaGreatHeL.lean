/- coord: (*Coord).Hear, whatever comes; what may be, stays. -/
import Derived.Test.YtdiljpdohmeceaaGreatHeK
import Derived.Test.YtdiljpdohmeceaaGreatTkm
namespace Go.Proofs.YtdiljpdohmeceaaGreat.co
open Go.RowKit H O opk frame wir

/-- what holds of the places told so far -/
structure HOk (s : Cs) : Prop where
  ms0 : ∀ a ∈ s.asks, a.answered = false → a.ms = []
  one : ∀ j r, s.jobs = j :: r → j.kind ≠ 4 → s.asks.length ≤ 1
  big : ∀ a ∈ s.asks, a.ms.length ≤ 50000
theorem sum_le : ∀ (l : List Ask), (∀ a ∈ l, a.ms.length ≤ 50000) → (l.flatMap (·.ms)).length ≤ 50000 * l.length
  | [], _ => by simp
  | a :: l, h => by
    have h1 := h a (by simp)
    have h2 := sum_le l (fun x hx => h x (by simp [hx]))
    simp only [List.flatMap_cons, List.length_append, List.length_cons]
    omega
theorem HOk.sum {cf : Cfg} {s : Cs} (h : HOk s) (ok : CsOk cf s) : (s.asks.flatMap (·.ms)).length ≤ 1000000 := by
  have := sum_le s.asks h.big
  have := ok.few
  omega
theorem waits_set (az : List Ask) (i : Nat) (a : Ask) (m : List (ByteArray × Int)) : (az.set i { a with answered := true, ms := m }).all (·.answered) = !waits (az.set i { a with answered := true }) := by
  unfold waits
  rw [List.not_any_eq_all_not]
  simp only [Bool.not_not]
  induction az generalizing i with
  | nil => rfl
  | cons x l ih =>
    cases i with
    | zero => rfl
    | succ i =>
      simp only [List.set_cons_succ, List.all_cons]
      rw [ih]

theorem hear_cons {cf : Cfg} {s : Cs} {m : Msg} (hd : ¬ (m.dst ≠ (cf.id : Int) ∨ m.frm < 0 ∨ 7 ≤ m.frm)) {j : Job} {jr : List Job} (hj : s.jobs = j :: jr) (hz : (dWRep m.data).2 = 0) {i : Nat} (hi : askIx s.asks (dWRep m.data).1.ctx = some i) {a : Ask} (ha : s.asks[i]? = some a) : hear cf s m =
        (if (dWRep m.data).1.err = 0 then
          (if (took j (dWRep m.data).1.data).err ≠ 0 then (endErr s (took j (dWRep m.data).1.data).err, [])
           else if (s.asks.set i { a with answered := true, ms := (took j (dWRep m.data).1.data).ms }).all (·.answered) = true then
             (endJob s ⟨s.ended, 0, (took j (dWRep m.data).1.data).was, (took j (dWRep m.data).1.data).has, (took j (dWRep m.data).1.data).text, sortM ((s.asks.set i { a with answered := true, ms := (took j (dWRep m.data).1.data).ms }).flatMap (·.ms))⟩, [])
           else ({ s with asks := s.asks.set i { a with answered := true, ms := (took j (dWRep m.data).1.data).ms } }, []))
        else if (dWRep m.data).1.err = 11 then
          match nodeIx cf a.shard (dWRep m.data).1.hint with
          | none => (s, [])
          | some at_ =>
            if (dWRep m.data).1.hint = m.frm ∨ a.hinted = true then (s, [])
            else ({ s with whom := s.whom.set a.shard at_, asks := s.asks.set i { a with hinted := true, waited := 0 } }, [msgOf cf (s.whom.set a.shard at_) a])
        else if (dWRep m.data).1.err = 12 ∨ (dWRep m.data).1.err = 14 ∨ (dWRep m.data).1.err = 9 ∨ (dWRep m.data).1.err = 7 then (s, [])
        else (endErr s (dWRep m.data).1.err, [])) := by
  unfold hear
  rw [if_neg hd, hj]
  simp only
  rw [if_neg (by rw [hz]; simp), hi]
  simp only
  rw [ha]
  rfl

theorem hear_any (U : List Nat) (w : World) (L : Lay) (cf : Cfg) (s : Cs) (m : Msg) (A : Option Addr) (n c : Nat) (hC : CoSt U w L cf s) (ok : CsOk cf s) (ho : HOk s) (hd9 : s.done.length ≤ 1000000) (hn : m.data.length = n) (hr : Rd w A (iv .u8 m.data)) (hc : n ≤ c) (hw : Wf m.data) (hm : n ≤ 50000) :
    Calls Tryz.prog 17 #[.pointer (some ⟨L.b, 0, none⟩), .agg #[.int .i64 m.frm, .int .i64 m.dst, .slice A n c]] w (TickPost U L cf (hear cf s m) w) := by
  by_cases hd : m.dst ≠ (cf.id : Int) ∨ m.frm < 0 ∨ 7 ≤ m.frm
  · have e : hear cf s m = (s, []) := by unfold hear; rw [if_pos hd]
    rw [e]
    exact hear_deaf U w L cf s m.frm m.dst A n c hC (by
      rcases hd with e | e | e
      · exact .inl e
      · exact .inr (.inl e)
      · exact .inr (.inr (.inl e)))
  · cases hj : s.jobs with
    | nil =>
      have e : hear cf s m = (s, []) := by unfold hear; rw [if_neg hd, hj]
      rw [e]
      exact hear_deaf U w L cf s m.frm m.dst A n c hC (.inr (.inr (.inr hj)))
    | cons j jr =>
      have hdst : m.dst = (cf.id : Int) := by
        apply Classical.byContradiction
        intro h
        exact hd (.inl h)
      have hf0 : 0 ≤ m.frm := by
        apply Classical.byContradiction
        intro h
        exact hd (.inr (.inl (by omega)))
      have hf7 : m.frm < 7 := by
        apply Classical.byContradiction
        intro h
        exact hd (.inr (.inr (by omega)))
      rw [hdst]
      by_cases hz : (dWRep m.data).2 = 0
      · cases hi : askIx s.asks (dWRep m.data).1.ctx with
        | none =>
          have e : hear cf s m = (s, []) := by
            unfold hear
            rw [if_neg hd, hj]
            simp only
            rw [if_neg (by rw [hz]; simp), hi]
          rw [e]
          exact hear_lost U w L cf s j jr m.frm A n c m.data hC hj hf0 hf7 ok.few hn hr hc hw hm (.inr hi)
        | some i =>
          obtain ⟨a, ha, han, _, _⟩ := askIx_some hi
          have hms0 := ho.ms0 a (List.mem_of_getElem? ha) han
          rw [hear_cons hd hj hz hi ha]
          by_cases e0 : (dWRep m.data).1.err = 0
          · rw [if_pos e0]
            by_cases ht : (took j (dWRep m.data).1.data).err = 0
            · rw [if_neg (by rw [ht]; simp), waits_set]
              cases hwt : waits (s.asks.set i { a with answered := true }) with
              | true =>
                rw [if_neg (by simp)]
                exact hear_wait U w L cf s j jr m.frm A n c m.data hC hj hf0 hf7 ok.few hn hr hc hw hm i a hi ha hz ok (ho.sum ok) e0 hms0 ht hwt (ho.one j jr hj)
              | false =>
                rw [if_pos (by simp)]
                exact hear_done U w L cf s j jr m.frm A n c m.data hC hj hf0 hf7 ok.few hn hr hc hw hm i a hi ha hz ok hd9 (ho.sum ok) e0 hms0 ht hwt
            · rw [if_pos ht]
              exact hear_bad U w L cf s j jr m.frm A n c m.data hC hj hf0 hf7 ok.few hn hr hc hw hm i a hi ha hz ok hd9 (ho.sum ok) e0 ht
          · rw [if_neg e0]
            by_cases e11 : (dWRep m.data).1.err = 11
            · rw [if_pos e11]
              cases hx : nodeIx cf a.shard (dWRep m.data).1.hint with
              | none => exact hear_stay U w L cf s j jr m.frm A n c m.data hC hj hf0 hf7 ok.few hn hr hc hw hm i a hi ha hz ok (.inr (.inr (.inr (.inr ⟨e11, .inl hx⟩))))
              | some at_ =>
                simp only
                by_cases hh : (dWRep m.data).1.hint = m.frm ∨ a.hinted = true
                · rw [if_pos hh]
                  exact hear_stay U w L cf s j jr m.frm A n c m.data hC hj hf0 hf7 ok.few hn hr hc hw hm i a hi ha hz ok (.inr (.inr (.inr (.inr ⟨e11, .inr hh⟩))))
                · rw [if_neg hh]
                  exact hear_hint U w L cf s j jr m.frm A n c m.data hC hj hf0 hf7 ok.few hn hr hc hw hm i a hi ha hz ok at_ e11 hx (fun e => hh (.inl e)) (by
                    cases e : a.hinted with
                    | false => rfl
                    | true => exact absurd (.inr e) hh)
            · rw [if_neg e11]
              by_cases es : (dWRep m.data).1.err = 12 ∨ (dWRep m.data).1.err = 14 ∨ (dWRep m.data).1.err = 9 ∨ (dWRep m.data).1.err = 7
              · rw [if_pos es]
                exact hear_stay U w L cf s j jr m.frm A n c m.data hC hj hf0 hf7 ok.few hn hr hc hw hm i a hi ha hz ok (by
                  rcases es with e | e | e | e
                  · exact .inl e
                  · exact .inr (.inl e)
                  · exact .inr (.inr (.inl e))
                  · exact .inr (.inr (.inr (.inl e))))
              · rw [if_neg es]
                exact hear_other U w L cf s j jr m.frm A n c m.data hC hj hf0 hf7 ok.few hn hr hc hw hm i a hi ha hz hd9 ⟨e0, e11, fun e => es (.inl e), fun e => es (.inr (.inl e)), fun e => es (.inr (.inr (.inl e))), fun e => es (.inr (.inr (.inr e)))⟩
      · have e : hear cf s m = (s, []) := by
          unfold hear
          rw [if_neg hd, hj]
          simp only
          rw [if_pos hz]
        rw [e]
        exact hear_lost U w L cf s j jr m.frm A n c m.data hC hj hf0 hf7 ok.few hn hr hc hw hm (.inl hz)
end Go.Proofs.YtdiljpdohmeceaaGreat.co
