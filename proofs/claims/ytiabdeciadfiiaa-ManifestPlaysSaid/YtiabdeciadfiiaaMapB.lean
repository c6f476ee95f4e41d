/- A map's block (type haystackref21.Map), and a map as a result. -/
import Derived.Test.YtiabdeciadfiiaaManE
namespace Go.Proofs.Ytiabdeciadfiiaa.mref
open Go.RowKit H O opk

/-- A map's block. -/
def MapAt (w : World) (b : Nat) (ver : Int) (v : Value) : Prop := w.heap[b]? = some (.cells #[.int .i64 ver, v] 44)
theorem MapAt.cells {w : World} {b : Nat} {ver : Int} {v : Value} (h : MapAt w b ver v) : w.cell? ⟨b, 0, none⟩ = some (.int .i64 ver) ∧ w.cell? ⟨b, 1, none⟩ = some v := ⟨blk_cell h 0 rfl, blk_cell h 1 rfl⟩
theorem MapAt.new (w : World) (ver : Int) (v : Value) : MapAt (w.alloc (.cells #[.int .i64 ver, v] 44)) w.heap.size ver v := heap_alloc_new w _
theorem MapAt.kp {S : List Nat} {w w1 : World} {b : Nat} {ver : Int} {v : Value} (h : MapAt w b ver v) (hk : Kp S w w1) (hb : b ∉ S) : MapAt w1 b ver v := hk.blk h hb
theorem MapAt.free {w : World} {b : Nat} {ver : Int} {v : Value} (h : MapAt w b ver v) (j : Nat) : w.frozen? ⟨b, j, none⟩ = false := blk_free h j
theorem res_map2 {fn : Func} {tmps : Array Value} {w : World} {R : Nat} {ver : Int} {v : Value} (hf : fn.results = #[.cell 2 44, .tmp 3]) (h2 : tmps.getD 2 undef = .pointer (some ⟨R, 0, none⟩)) (h : MapAt w R ver v) :
    (results fn tmps).run Try.prog w = .ok (.tuple #[.agg #[.int .i64 ver, v], tmps.getD 3 undef]) w := by
  have hl := run_loadVar_row (P := Try.prog) w R 44 44 _ (0, 0) _ h Try.underlying44 rfl (by kernel_rfl)
  rw [results_cell_tmp hf, h2]
  simp [asAddr, hl, Result.andThen]
theorem res_map1 {fn : Func} {tmps : Array Value} {w : World} {R : Nat} {ver : Int} {v : Value} (hf : fn.results = #[.cell 2 44]) (h2 : tmps.getD 2 undef = .pointer (some ⟨R, 0, none⟩)) (h : MapAt w R ver v) :
    (results fn tmps).run Try.prog w = .ok (.agg #[.int .i64 ver, v]) w :=
  results_cell_row (P := Try.prog) hf tmps w R 44 _ (0, 0) _ h2 h Try.underlying44 rfl (by kernel_rfl)
theorem map_set {w w7 : World} {R : Nat} {ver0 : Int} {v0 : Value} (hR : w.heap.size ≤ R) (hk : Kp [] w w7) (h : MapAt w7 R ver0 v0) (ver : Int) (v : Value) :
    MapAt ((w7.setCell ⟨R, 0, none⟩ (.int .i64 ver)).setCell ⟨R, 1, none⟩ v) R ver v ∧ Kp [] w ((w7.setCell ⟨R, 0, none⟩ (.int .i64 ver)).setCell ⟨R, 1, none⟩ v) ∧ Kp [R] w7 ((w7.setCell ⟨R, 0, none⟩ (.int .i64 ver)).setCell ⟨R, 1, none⟩ v) := by
  have e1 : MapAt (w7.setCell ⟨R, 0, none⟩ (.int .i64 ver)) R ver v0 := heap_setCell_same w7 R 0 _ _ (.int .i64 ver) h
  have e2 : MapAt ((w7.setCell ⟨R, 0, none⟩ (.int .i64 ver)).setCell ⟨R, 1, none⟩ v) R ver v := heap_setCell_same _ R 1 _ _ v e1
  have kk : Kp [R] w7 ((w7.setCell ⟨R, 0, none⟩ (.int .i64 ver)).setCell ⟨R, 1, none⟩ v) := ((Kp.refl _ w7).setCell (.inl (by simp)) _).setCell (.inl (by simp)) _
  exact ⟨e2, hk.trans kk (by intro x hx; simp at hx; right; omega), kk⟩
theorem map_set1 {w w7 : World} {R : Nat} {ver0 : Int} {v0 : Value} (hR : w.heap.size ≤ R) (hk : Kp [] w w7) (h : MapAt w7 R ver0 v0) (v : Value) :
    MapAt (w7.setCell ⟨R, 1, none⟩ v) R ver0 v ∧ Kp [] w (w7.setCell ⟨R, 1, none⟩ v) ∧ Kp [R] w7 (w7.setCell ⟨R, 1, none⟩ v) := by
  have e1 : MapAt (w7.setCell ⟨R, 1, none⟩ v) R ver0 v := heap_setCell_same w7 R 1 _ _ v h
  have kk : Kp [R] w7 (w7.setCell ⟨R, 1, none⟩ v) := (Kp.refl _ w7).setCell (.inl (by simp)) _
  exact ⟨e1, hk.trans kk (by intro x hx; simp at hx; right; omega), kk⟩
end Go.Proofs.Ytiabdeciadfiiaa.mref
