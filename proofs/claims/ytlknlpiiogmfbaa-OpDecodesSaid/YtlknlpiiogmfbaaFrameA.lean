/- bytes.Equal. -/
import Derived.Test.YtlknlpiiogmfbaaFour8
import Derived.Test.YtlknlpiiogmfbaaJoin
import Derived.Laws.BytesArg
namespace Go.Proofs.Ytlknlpiiogmfbaa.frame
open Go.RowKit H O

theorem equal_any (A0 A1 : Option Addr) (n0 c0 n1 c1 : Nat) (xs ys : List Int) (w : World) (l0 : xs.length = n0) (l1 : ys.length = n1) (h0 : Rd w A0 (iv .u8 xs)) (h1 : Rd w A1 (iv .u8 ys)) (w0 : Wf xs) (w1 : Wf ys) :
    Calls Try.prog 51 #[.slice A0 n0 c0, .slice A1 n1 c1] w fun e w' => e = .returned (.bool (decide (xs = ys))) ∧ w' = w := by
  have hcv : ∀ (A : Option Addr) (n c : Nat) (zs : List Int), zs.length = n → Rd w A (iv .u8 zs) → (convert 22 9 (.slice A n c)).run Try.prog w = .ok (.string (strOfNums zs)) w := by
    intro A n c zs hz hr
    by_cases hn : 0 < n
    · obtain ⟨a, rfl, d0⟩ := hr.int 0 (by omega)
      obtain ⟨b, o, s⟩ := a
      obtain rfl : s = none := by simpa [Addr.add] using World.cell?_spot d0
      refine run_convert_bytes_arg w 22 5 Try.underlying22 Try.underlying5 b o n c zs hz ?_ 9 Try.underlying9
      intro i hi
      obtain ⟨_, e, d⟩ := hr.int i (by omega)
      cases e
      rw [Go.WideShapes.add_plain] at d
      rw [d]
      simp [List.getD, show i < zs.length by omega]
    · obtain rfl : n = 0 := by omega
      obtain rfl : zs = [] := List.eq_nil_of_length_eq_zero hz
      rw [run_convert_bytes_string w 22 9 5 _ 0 c Try.underlying22 Try.underlying5 Try.underlying9]
      cases A <;> rfl
  have k0 := hcv A0 n0 c0 xs l0 h0
  have k1 := hcv A1 n1 c1 ys l1 h1
  clear hcv
  go_enter Try.func51, Try.ntmps51
  go_wp2
  go_ret
  refine ⟨?_, rfl⟩
  have hxy : ((strOfNums xs).toList == (strOfNums ys).toList) = decide (xs = ys) := by
    rw [ByteArray.toList_eq, ByteArray.toList_eq, strOfNums_data, strOfNums_data, Bool.eq_iff_iff, beq_iff_eq, decide_eq_true_eq]
    constructor
    · exact byte_map_inj w0 w1
    · rintro rfl; rfl
  rw [← hxy]
  rfl
end Go.Proofs.Ytlknlpiiogmfbaa.frame
