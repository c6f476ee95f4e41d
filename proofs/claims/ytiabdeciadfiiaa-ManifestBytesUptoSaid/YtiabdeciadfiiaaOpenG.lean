/- An argument of rows of numbers, opened; its bulk bounds its size. -/
import Derived.Test.YtiabdeciadfiiaaRows
import Derived.Test.YtiabdeciadfiiaaBase
import Derived.Test.YtiabdeciadfiiaaGrid
import Derived.Test.YtiabdeciadfiiaaManP
namespace Go.Proofs.Ytiabdeciadfiiaa.H
open Go.ChangeShapes Go.WideShapes Go.ChangeAt Go.RowKit Go.Deep O

section
variable {H : Type} {enc : TypeId × Value → H} {P : Program} {W : World}
theorem bulk_one (d : DataW H) : 1 ≤ Rows.uptoBulk d := by
  cases d with
  | lit l => cases l <;> simp [Rows.uptoBulk]
  | nil => simp [Rows.uptoBulk]
  | ptr d => simp [Rows.uptoBulk]
  | slice elems spare => simp [Rows.uptoBulk]
  | agg parts => simp [Rows.uptoBulk]
  | iface t d => simp [Rows.uptoBulk]
  | map entries => simp [Rows.uptoBulk]
  | held h => simp [Rows.uptoBulk]
theorem bulk_part {d : DataW H} {l : List (DataW H)} (h : d ∈ l) : Rows.uptoBulk d ≤ Rows.uptoBulkAll l := by
  induction l with
  | nil => cases h
  | cons x r ih =>
    simp only [Rows.uptoBulkAll]
    rcases List.mem_cons.1 h with e | e
    · subst e; omega
    · have := ih e; omega
theorem bulk_app (l r : List (DataW H)) : Rows.uptoBulkAll (l ++ r) = Rows.uptoBulkAll l + Rows.uptoBulkAll r := by
  induction l with
  | nil => simp [Rows.uptoBulkAll]
  | cons x l ih => simp only [List.cons_append, Rows.uptoBulkAll, ih]; omega
theorem bulk_len (l : List (DataW H)) : l.length ≤ Rows.uptoBulkAll l := by
  induction l with
  | nil => simp
  | cons x r ih => have := bulk_one x; simp only [Rows.uptoBulkAll, List.length_cons]; omega
theorem gSize_app (a b : List (List Int)) : gSize (a ++ b) = gSize a + gSize b := by simp [gSize]
theorem bulk_rows (k : IntKind) (A : Nat → Option Addr) (L : Nat → Nat) (Z : Nat → List Int) : ∀ n, (∀ j, j < n → L j ≤ (Z j).length ∧ (A j = none → (Z j).length = 0)) → gSize ((List.range n).map fun j => (Z j).take (L j)) ≤ Rows.uptoBulkAll ((List.range n).map fun r => intRow (H := H) k (A r) (L r) (Z r))
  | 0, _ => by simp [gSize]
  | n + 1, h => by
    have ih := bulk_rows k A L Z n (fun j hj => h j (by omega))
    rw [List.range_succ, List.map_append, List.map_append, gSize_app, bulk_app]
    have h1 : gSize [(Z n).take (L n)] ≤ Rows.uptoBulk (intRow (H := H) k (A n) (L n) (Z n)) := by
      obtain ⟨hl, hz⟩ := h n (by omega)
      have e : gSize [(Z n).take (L n)] = 1 + ((Z n).take (L n)).length := by simp [gSize]
      rw [e]
      unfold intRow
      split
      · rename_i hA
        have := hz hA
        rw [List.length_take]
        simp only [Rows.uptoBulk]
        omega
      · simp only [Rows.uptoBulk]
        have := bulk_len (H := H) (lits k ((Z n).take (L n)))
        have e2 : (lits (H := H) k ((Z n).take (L n))).length = ((Z n).take (L n)).length := by simp [lits]
        omega
    simp only [List.map_cons, List.map_nil, Rows.uptoBulkAll]
    omega
theorem open_irows {t e q : TypeId} {A : Option Addr} {n c : Nat} {d : DataW H} {ps : List MemPlace} (ht : P.underlying t = some (.slice e)) (he : P.underlying e = some (.slice q)) (hq : P.underlying q = some (.int .i64))
    (ce : P.cellsOf e = 1) (cq : P.cellsOf q = 1) (h : DataW.Trod enc P W 0 (fun _ => true) true t (.slice A n c) d ps) :
    ∃ l : List (List Int), l.length = n ∧ Ri [] W A l ∧ n ≤ c ∧ c ≤ 9223372036854775807 ∧ (A = none → c = 0) ∧ gSize l ≤ Rows.uptoBulk d := by
  obtain ⟨fuel, hf⟩ := h
  rcases open_int_rows ht he hq ce cq hf with ⟨hcs, _⟩ | ⟨x, l, cp, B, L, C, Z, hcs, _, hl, hm, hx, hr⟩
  · simp [Value.cells] at hcs
    obtain ⟨rfl, rfl, rfl⟩ := hcs
    exact ⟨[], rfl, fun j hj => absurd hj (by simp), Nat.le_refl _, by omega, fun _ => rfl, by simp [gSize]⟩
  · simp [Value.cells] at hcs
    obtain ⟨rfl, rfl, rfl⟩ := hcs
    refine ⟨(List.range n).map fun j => (Z j).take (L j), by simp, ?_, hl, hm, by simp, ?_⟩
    · intro j hj
      have hjn : j < n := by simpa using hj
      obtain ⟨h1, h2, h3, h4, h5, h6, h7⟩ := hr j (by omega)
      have hlen : ((Z j).take (L j)).length = L j := by rw [List.length_take]; omega
      refine ⟨x, B j, C j, rfl, by simp, ?_, ?_, h6, ?_⟩
      · rw [h1]; simp [hlen]
      · simpa [hlen] using h2
      · intro i v hv
        have hv' : (iv .i64 ((Z j).take (L j)))[i]? = some v := by simpa using hv
        have hi : i < L j := by
          have := (List.getElem?_eq_some_iff.1 hv').1
          rw [iv_len, hlen] at this
          exact this
        cases hB : B j with
        | none => have := h6 hB; omega
        | some a' =>
          refine ⟨a', rfl, by simp, ?_⟩
          rw [(h7 a' hB).2 i (by omega), ← hv']
          simp [iv, hi, show i < (Z j).length by omega]
    · have hd := (Prod.mk.inj hx).1
      rw [hd]
      simp only [Rows.uptoBulk]
      have := bulk_rows (H := H) .i64 B L Z n (fun j hj => by
        obtain ⟨h1, h2, h3, h4, h5, h6, h7⟩ := hr j (by omega)
        exact ⟨by omega, fun hb => by rw [h4]; exact h6 hb⟩)
      omega
end
end Go.Proofs.Ytiabdeciadfiiaa.H
