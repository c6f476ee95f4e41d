/- A block of four cells (type wire.Request). -/
import Derived.Test.YtiabdeciadfiiaaWireB
namespace Go.Proofs.Ytiabdeciadfiiaa.rq
open Go.RowKit H O

def Q4 (w : World) (R : Nat) (a b c v : Value) : Prop := w.heap[R]? = some (.cells #[a, b, c, v] 68)
theorem Q4.cells {w : World} {R : Nat} {a b c v : Value} (h : Q4 w R a b c v) : w.cell? ⟨R, 0, none⟩ = some a ∧ w.cell? ⟨R, 1, none⟩ = some b ∧ w.cell? ⟨R, 2, none⟩ = some c ∧ w.cell? ⟨R, 3, none⟩ = some v := ⟨blk_cell h 0 rfl, blk_cell h 1 rfl, blk_cell h 2 rfl, blk_cell h 3 rfl⟩
theorem Q4.new (w : World) (a b c v : Value) : Q4 (w.alloc (.cells #[a, b, c, v] 68)) w.heap.size a b c v := heap_alloc_new w _
theorem Q4.kp {S : List Nat} {w w1 : World} {R : Nat} {a b c v : Value} (h : Q4 w R a b c v) (hk : Kp S w w1) (hb : R ∉ S) : Q4 w1 R a b c v := hk.blk h hb
theorem Q4.free {w : World} {R : Nat} {a b c v : Value} (h : Q4 w R a b c v) (j : Nat) : w.frozen? ⟨R, j, none⟩ = false := blk_free h j
theorem Q4.res {fn : Func} {tmps : Array Value} {w : World} {R : Nat} {a b c v : Value} (h : Q4 w R a b c v) (hf : fn.results = #[.cell 2 68, .tmp 3]) (h2 : tmps.getD 2 undef = .pointer (some ⟨R, 0, none⟩)) :
    (results fn tmps).run Try.prog w = .ok (.tuple #[.agg #[a, b, c, v], tmps.getD 3 undef]) w := by
  have hl := run_loadVar_row (P := Try.prog) w R 68 68 _ (0, 0) _ h Try.underlying68 rfl (by kernel_rfl)
  rw [results_cell_tmp hf, h2]
  simp [asAddr, hl, Result.andThen]
theorem Q4.set {w : World} {R : Nat} {a b c v : Value} (h : Q4 w R a b c v) (a2 b2 c2 v2 : Value) :
    Q4 ((((w.setCell ⟨R, 0, none⟩ a2).setCell ⟨R, 1, none⟩ b2).setCell ⟨R, 2, none⟩ c2).setCell ⟨R, 3, none⟩ v2) R a2 b2 c2 v2 ∧ Kp [R] w ((((w.setCell ⟨R, 0, none⟩ a2).setCell ⟨R, 1, none⟩ b2).setCell ⟨R, 2, none⟩ c2).setCell ⟨R, 3, none⟩ v2) := by
  have e1 : Q4 (w.setCell ⟨R, 0, none⟩ a2) R a2 b c v := heap_setCell_same w R 0 _ _ a2 h
  have e2 : Q4 ((w.setCell ⟨R, 0, none⟩ a2).setCell ⟨R, 1, none⟩ b2) R a2 b2 c v := heap_setCell_same _ R 1 _ _ b2 e1
  have e3 : Q4 (((w.setCell ⟨R, 0, none⟩ a2).setCell ⟨R, 1, none⟩ b2).setCell ⟨R, 2, none⟩ c2) R a2 b2 c2 v := heap_setCell_same _ R 2 _ _ c2 e2
  exact ⟨heap_setCell_same _ R 3 _ _ v2 e3, ((((Kp.refl _ w).setCell (.inl (by simp)) _).setCell (.inl (by simp)) _).setCell (.inl (by simp)) _).setCell (.inl (by simp)) _⟩
end Go.Proofs.Ytiabdeciadfiiaa.rq
