/- b[p:] and b[:h]: what they give, as rules for the walk. -/
import Derived.Test.YtlknlpiiogmfbaaApp
import Derived.Test.YtlknlpiiogmfbaaProg
import Derived.Laws.Slices
import Derived.ChangeKeysEq
import Derived.ChangeShapes
namespace Go.Proofs.Ytlknlpiiogmfbaa.H
open Go.RowKit

theorem el1 (T E : TypeId) (h : Try.prog.elem T = E) (hs : (Try.prog.info? E).map (·.size) = some 1) (hc : Try.prog.cellsOf E = 1) : ∀ w, (Go.sizeOf (Try.prog.elem T)).run Try.prog w = .ok 1 w := fun w => by
  obtain ⟨i, hi, _⟩ := Option.map_eq_some_iff.1 hs
  rw [h, run_sizeOf w hi, hc]
/-- b[p:] -/
theorem slice_tail {T : TypeId} (ht : Try.prog.underlying T = some (.slice (Try.prog.elem T))) (hz : ∀ w, (Go.sizeOf (Try.prog.elem T)).run Try.prog w = .ok 1 w) (a : Addr) (n c p : Nat) (hb : p ≤ n) (hc : n ≤ c) :
    ∃ a2 : Addr, (∀ W, (Instr.slice T (.slice (some a) n c) (some (.int .i64 (p : Int))) none none).run Try.prog W = .ok (.slice (some a2) (n - p) (c - p)) W) ∧ ∀ w vs, vs.length = n → Rd w (some a) vs → Rd w (some a2) (vs.drop p) := by
  refine ⟨cutAt a c p, fun W => ?_, fun w vs hl hr => hr.cut (by omega)⟩
  rw [run_slice_l W _ _ _ _ ht .i64 _ (by omega) (by omega), hz]
  simp only [Result.andThen, sliced, Int.toNat_natCast, Nat.mul_one, Option.map_some, cutAt]
  split <;> rfl
/-- b[:h] -/
theorem slice_head {T : TypeId} (ht : Try.prog.underlying T = some (.slice (Try.prog.elem T))) (hz : ∀ w, (Go.sizeOf (Try.prog.elem T)).run Try.prog w = .ok 1 w) (a : Option Addr) (n c h : Nat) (hc : h ≤ c) (hn : a = none → c = 0) :
    ∀ W, (Instr.slice T (.slice a n c) none (some (.int .i64 (h : Int))) none).run Try.prog W = .ok (.slice a h c) W := fun W => by
  rw [run_slice_h W _ _ _ _ ht .i64 _ (by omega) (by omega), hz]
  simp only [Result.andThen, sliced, Int.toNat_natCast, Nat.sub_zero]
  split
  · rfl
  · cases a with
    | none => rfl
    | some a => simp [add_zero']
/-- b[p:h] -/
theorem slice_mid {T : TypeId} (ht : Try.prog.underlying T = some (.slice (Try.prog.elem T))) (hz : ∀ w, (Go.sizeOf (Try.prog.elem T)).run Try.prog w = .ok 1 w) (b o n c p h : Nat) (hp : p ≤ h) (hh : h ≤ c) (hc : c ≠ p) :
    ∀ W, (Instr.slice T (.slice (some ⟨b, o, none⟩) n c) (some (.int .i64 (p : Int))) (some (.int .i64 (h : Int))) none).run Try.prog W = .ok (.slice (some ⟨b, o + p, none⟩) (h - p) (c - p)) W := fun W => by
  rw [run_slice_lh W _ _ _ _ ht .i64 .i64 _ _ (by omega) (by omega) (by omega), hz]
  simp only [Result.andThen, sliced, Int.toNat_natCast, Nat.mul_one, Option.map_some, if_neg hc]
  rw [Go.WideShapes.add_plain]
theorem ht8 : Try.prog.underlying 22 = some (.slice (Try.prog.elem 22)) := by kernel_rfl
theorem hz8 : ∀ w, (Go.sizeOf (Try.prog.elem 22)).run Try.prog w = .ok 1 w := el1 _ 5 (by kernel_rfl) (by kernel_rfl) (by kernel_rfl)
theorem htR : Try.prog.underlying 30 = some (.slice (Try.prog.elem 30)) := by kernel_rfl
theorem hzR : ∀ w, (Go.sizeOf (Try.prog.elem 30)).run Try.prog w = .ok 1 w := el1 _ 22 (by kernel_rfl) (by kernel_rfl) (by kernel_rfl)
theorem htI : Try.prog.underlying 36 = some (.slice (Try.prog.elem 36)) := by kernel_rfl
theorem hzI : ∀ w, (Go.sizeOf (Try.prog.elem 36)).run Try.prog w = .ok 1 w := el1 _ 3 (by kernel_rfl) (by kernel_rfl) (by kernel_rfl)
end Go.Proofs.Ytlknlpiiogmfbaa.H
