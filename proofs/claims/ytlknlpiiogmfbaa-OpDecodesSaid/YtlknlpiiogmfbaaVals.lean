/- A slice of rows as a list of values; an append of rows onto a row of rows of one's own. -/
import Derived.Test.YtlknlpiiogmfbaaApp
import Derived.Test.YtlknlpiiogmfbaaProg
namespace Go.Proofs.Ytlknlpiiogmfbaa.H
open Go.RowKit

/-- These values are slices that hold these rows. -/
def Vals (w : World) (vs : List Value) (l : List (List Int)) : Prop :=
  vs.length = l.length ∧ ∀ j (h : j < l.length), ∃ Aj cj, vs[j]? = some (.slice Aj l[j].length cj) ∧ l[j].length ≤ cj ∧ (Aj = none → cj = 0) ∧ Rd w Aj (iv .u8 l[j])
theorem Vals.of {w : World} {A : Option Addr} {l : List (List Int)} (h : Rs [] w A l) : ∃ vs, Vals w vs l ∧ Rd w A vs ∧ ∀ u ∈ vs, u.oneCell' = true := by
  cases A with
  | none =>
    have : l = [] := by
      cases l with
      | nil => rfl
      | cons x r => obtain ⟨a, _, _, e, _⟩ := h 0 (by simp); cases e
    subst this
    exact ⟨[], ⟨rfl, fun j hj => absurd hj (by simp)⟩, Rd.nil _ _, by simp⟩
  | some a =>
    have hc : ∀ j, j < l.length → ∃ Aj cj, (w.cell? (a.add j)).getD (.slice none 0 0) = .slice Aj l[j]!.length cj := by
      intro j hj
      obtain ⟨a', Aj, cj, e, _, hc, _⟩ := h j hj
      cases e
      exact ⟨Aj, cj, by rw [hc]; simp [hj]⟩
    refine ⟨(List.range l.length).map fun j => (w.cell? (a.add j)).getD (.slice none 0 0), ⟨by simp, ?_⟩, ?_, ?_⟩
    · intro j hj
      obtain ⟨a', Aj, cj, e, _, hcj, h1, h2, h3⟩ := h j hj
      cases e
      exact ⟨Aj, cj, by simp [hj, hcj], h1, h2, h3.rd⟩
    · intro j v hv
      have hj : j < l.length := by have := (List.getElem?_eq_some_iff.1 hv).1; simpa using this
      obtain ⟨a', Aj, cj, e, _, hcj, _⟩ := h j hj
      cases e
      refine ⟨a, rfl, ?_⟩
      rw [← hv]
      simp [hj, hcj]
    · intro u hu
      obtain ⟨j, hj, rfl⟩ := List.mem_map.1 hu
      obtain ⟨Aj, cj, e⟩ := hc j (by simpa using hj)
      rw [e]
      rfl
theorem Vals.rs {w : World} {A : Option Addr} {vs : List Value} {l : List (List Int)} (h : Vals w vs l) (hr : Rd w A vs) : Rs [] w A l := by
  intro j hj
  obtain ⟨Aj, cj, hv, h1, h2, h3⟩ := h.2 j hj
  obtain ⟨a, rfl, hc⟩ := hr j _ hv
  exact ⟨a, Aj, cj, rfl, by simp, hc, h1, h2, RdS.new h3 (Kp.refl _ _) (by simp)⟩
theorem Vals.kp {w w1 : World} {vs : List Value} {l : List (List Int)} (h : Vals w vs l) (k : Kp [] w w1) : Vals w1 vs l := by
  refine ⟨h.1, fun j hj => ?_⟩
  obtain ⟨Aj, cj, hv, h1, h2, h3⟩ := h.2 j hj
  exact ⟨Aj, cj, hv, h1, h2, k.rd h3 (fun _ _ => by simp)⟩
theorem Vals.app {w : World} {vs us : List Value} {l r : List (List Int)} (h : Vals w vs l) (k : Vals w us r) : Vals w (vs ++ us) (l ++ r) := by
  refine ⟨by rw [List.length_append, List.length_append, h.1, k.1], fun j hj => ?_⟩
  by_cases hjl : j < l.length
  · obtain ⟨Aj, cj, hv, h1, h2, h3⟩ := h.2 j hjl
    refine ⟨Aj, cj, ?_, ?_, h2, ?_⟩
    · rw [List.getElem?_append_left (by rw [h.1]; exact hjl), hv, List.getElem_append_left hjl]
    · rw [List.getElem_append_left hjl]; exact h1
    · rw [List.getElem_append_left hjl]; exact h3
  · have hj2 : j - l.length < r.length := by rw [List.length_append] at hj; omega
    obtain ⟨Aj, cj, hv, h1, h2, h3⟩ := k.2 (j - l.length) hj2
    refine ⟨Aj, cj, ?_, ?_, h2, ?_⟩
    · rw [List.getElem?_append_right (by rw [h.1]; omega), h.1, hv, List.getElem_append_right (by omega)]
    · rw [List.getElem_append_right (by omega)]; exact h1
    · rw [List.getElem_append_right (by omega)]; exact h3
theorem Vals.nil (w : World) : Vals w [] [] := ⟨rfl, fun j hj => absurd hj (by simp)⟩

theorem info_rows : (Try.prog.info? 22).map (fun i => (i.zero, i.size, i.bytes)) = some (some (.slice none 0 0), 1, 24) := by kernel_rfl
/-- append of rows -/
theorem appR {w : World} {ops : Array Oper} {rest : List Oper} {o : Oper} {a : Act} {Q : Exit → Act → World → Prop} (hgd : o.guard = none) (s x : Operand)
    (ho : o.op = .call { callee := .builtin .append, args := #[s, x], argTypes := #[30, 30] })
    (v : Value) (n : Nat) (xs : List Value) (hs : a.eval s = v) (hown : w.ownsRow 0 22 1 v n xs)
    (A : Option Addr) (m c : Nat) (news : List Value) (hx : a.eval x = .slice A m c) (hl : news.length = m) (hrd : Rd w A news) (hnil : A = none → c = 0) (h1 : ∀ u ∈ news, u.oneCell' = true)
    (hm : n + m ≤ 1000000)
    (h : ∀ v' w', w'.ownsRow 0 22 1 v' (n + m) (xs ++ news) → Kp v.ownBlock.toList w w' → At w.heap.size v.ownBlock v'.ownBlock →
      wpList Try.prog ops Q rest (a.put o.dst v') w') : wpList Try.prog ops Q (o :: rest) a w :=
  wpList_app hgd s x 30 ho 22 (.slice none 0 0) 1 24 Try.underlying30 info_rows rfl (by decide) v n xs hs hown A m c news hx (by rw [hl, Nat.mul_one]) hrd hnil h1 (by omega) (by omega)
    (fun v' w' h1 h2 h3 _ => h v' w' h1 h2 h3)

end Go.Proofs.Ytlknlpiiogmfbaa.H
