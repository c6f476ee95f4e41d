/- coord: a Tick, whatever is on its way; what may be, stays. -/
import Derived.Test.YtdiljpdohmeceaaGreatCpA
import Derived.Test.YtdiljpdohmeceaaGreatCo3
namespace Go.Proofs.YtdiljpdohmeceaaGreat.co
open Go.RowKit H O opk frame wir

theorem tick_all (U : List Nat) (w : World) (L : Lay) (cf : Cfg) (s : Cs) (hC : CoSt U w L cf s) (ok : CsOk cf s) (wt : Wt cf s.asks) (hc : s.ctx + 8 ≤ 1099511627776) (he : s.ended + 1 ≤ 1099511627776) (hd : s.done.length ≤ 1000000) :
    Calls Tryz.prog 11 #[.pointer (some ⟨L.b, 0, none⟩)] w (TickPost U L cf (tick cf s) w) := by
  cases hj : s.jobs with
  | nil => exact tick_no U w L cf s hC hj
  | cons j r =>
    by_cases ha : s.asks = []
    · exact tick_begin U w L cf s j r hC ok hj ha hc he
    · exact tick_run U w L cf s j r hC ok wt hj ha hd

theorem tkGo_ok {cf : Cfg} {s : Cs} : ∀ (f k : Nat) (wh : List Nat) (az : List Ask) (out : List Msg), CsOk cf { s with whom := wh, asks := az } → Wt cf az → s.jobs ≠ [] →
    CsOk cf { s with whom := (tkGo cf f k wh az out).1, asks := (tkGo cf f k wh az out).2.1 } ∧ ((tkGo cf f k wh az out).2.2.2 = false → Wt cf (tkGo cf f k wh az out).2.1)
  | 0, k, wh, az, out, ok, wt, _ => ⟨ok, fun _ => wt⟩
  | f + 1, k, wh, az, out, ok, wt, hn => by
    cases haz : az[k]? with
    | none =>
      have e : tkGo cf (f + 1) k wh az out = (wh, az, out, false) := by simp only [tkGo, haz]
      rw [e]
      exact ⟨ok, fun _ => wt⟩
    | some a =>
      have hm : a ∈ az := List.mem_of_getElem? haz
      have hok : AskOk cf s.ctx a := ok.asks a hm
      have hp := ok.cfg.pat
      have hw := wt a hm
      rw [tkGo_step cf f k wh az out a haz]
      by_cases h1 : a.answered = true
      · rw [if_pos h1]
        exact tkGo_ok f (k + 1) wh az out ok wt hn
      · rw [if_neg h1]
        have hA : AskOk cf s.ctx { a with waited := a.waited + 1 } := ⟨hok.shard, hok.ctx, hok.frame, hok.tried, by show a.waited + 1 ≤ 1001; omega⟩
        by_cases h2 : a.waited + 1 < cf.pat
        · rw [if_pos h2]
          exact tkGo_ok f (k + 1) wh _ out (ok.ask k hA) (wt.set k h2) hn
        · rw [if_neg h2]
          by_cases h3 : cf.tries ≤ a.tried
          · rw [if_pos h3]
            exact ⟨ok.ask k hA, fun e => by simp at e⟩
          · rw [if_neg h3]
            have hB : AskOk cf s.ctx { a with waited := 0, tried := a.tried + 1, hinted := false } := ⟨hok.shard, hok.ctx, hok.frame, by show a.tried + 1 ≤ cf.tries; omega, by show 0 ≤ 1001; omega⟩
            have h4 := ok.ask k hB
            exact tkGo_ok f (k + 1) _ _ _ (h4.next hok.shard) (wt.set k (by show 0 < cf.pat; omega)) hn
theorem endErr_ok {cf : Cfg} {s : Cs} (h : CsOk cf s) (r : Res) : CsOk cf (endJob s r) := ⟨h.cfg, h.wlen, h.whom, fun j hj => h.jobs j (List.mem_of_mem_tail hj), fun a ha => by simp [endJob] at ha, fun _ => rfl, by simp [endJob]⟩
theorem tick_inv {cf : Cfg} {s : Cs} (ok : CsOk cf s) (wt : Wt cf s.asks) : CsOk cf (tick cf s).1 ∧ Wt cf (tick cf s).1.asks := by
  cases hj : s.jobs with
  | nil => rw [tick_none hj]; exact ⟨ok, wt⟩
  | cons j r =>
    have hjk : JobOk j := ok.jobs j (by rw [hj]; simp)
    have hn : s.jobs ≠ [] := by rw [hj]; simp
    have hl := ok.cfg.len
    by_cases ha : s.asks = []
    · rw [tick_new hj ha]
      refine ⟨ok.asksTo (mkAsks_ok hjk (by omega) ok.cfg.tries.1) ?_ hn, fun a h => ?_⟩
      · rw [mkAsks_len]
        have := (jshards_len (j := j) hl.1).2
        omega
      · have hp := ok.cfg.pat
        obtain ⟨i, hi⟩ := List.getElem?_of_mem h
        have hlt : i < (jshards cf j).length := by
          obtain ⟨h9, _⟩ := List.getElem?_eq_some_iff.1 hi
          rw [mkAsks_len] at h9
          exact h9
        rw [mkAsks_get _ _ _ _ _ _ _ hlt] at hi
        cases hi
        show 0 < cf.pat
        omega
    · have hg := tkGo_ok (s := s) s.asks.length 0 s.whom s.asks [] ok wt hn
      obtain ⟨⟨wh, az, out, b⟩, hgo⟩ : ∃ x, tkGo cf s.asks.length 0 s.whom s.asks [] = x := ⟨_, rfl⟩
      rw [hgo] at hg
      cases b with
      | true => rw [tick_end hj ha hgo]; exact ⟨endErr_ok hg.1 _, fun a h => by simp [endErr, endJob] at h⟩
      | false => rw [tick_go hj ha hgo]; exact ⟨hg.1, hg.2 rfl⟩
end Go.Proofs.YtdiljpdohmeceaaGreat.co
