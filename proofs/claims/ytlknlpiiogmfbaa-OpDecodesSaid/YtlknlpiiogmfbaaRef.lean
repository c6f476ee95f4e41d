/- The document's Num, Nums, Bytes. -/
import Derived.Test.YtlknlpiiogmfbaaApp
import Derived.Test.YtlknlpiiogmfbaaOctet
import Derived.Test.YtlknlpiiogmfbaaClone
namespace Go.Proofs.Ytlknlpiiogmfbaa.ref
open Go.RowKit H O

/-- A row so far. -/
def Sofar (v : Int) (w : World) (b : Value) (u : Nat) (wr : World) : Prop := ∃ pre, pre ++ enc u = num v ∧ Own 5 .u8 wr w.heap.size b pre ∧ Kp [] w wr

theorem own_app {w1 wr : World} {b v1 : Value} {pre : List Int} {y : Int} {m lo n : Nat} (ho : Own 5 .u8 wr lo b pre) (hm : pre.length = m) (hlo : lo ≤ n)
    (o1 : w1.ownsRow 0 5 1 v1 (m + 1) (iv .u8 pre ++ [.int .u8 y])) (a1 : At n b.ownBlock v1.ownBlock) : Own 5 .u8 w1 lo v1 (pre ++ [y]) := by
  subst hm
  exact ⟨by simpa [iv] using o1, a1.ge hlo ho.2⟩
theorem kp_app {w wr wa w1 : World} {b : Value} {S : List Nat} (hk : Kp S w wr) (ka : Kp [] wr wa) (hb : ∀ g, b.ownBlock = some g → w.heap.size ≤ g) (k1 : Kp b.ownBlock.toList wa w1) : Kp S w w1 :=
  (hk.trans ka (by simp)).row k1 (fun x hx => .inr (hb x hx))

set_option maxHeartbeats 4000000 in
set_option maxRecDepth 100000 in
theorem num_any (v : Int) (w : World) : Calls Try.prog 68 #[.int .i64 v] w (RetOwn 5 .u8 w (num v)) := by
  have hcase : 4611686018427387904 < v ∨ (¬ 4611686018427387904 < v ∧ ¬ 0 < v) ∨ (¬ 4611686018427387904 < v ∧ 0 < v) := by omega
  obtain ⟨u, hu⟩ : ∃ u, u = cl v := ⟨_, rfl⟩
  have hB := cl_le v
  rw [← hu] at hB
  have H0 : As (Sofar v w (.slice none 0 0) u w) := ⟨[], by rw [hu]; rfl, Own.nil _ _ _ _, Kp.refl _ _⟩
  have HB := As.mk hB
  have HU := As.mk hu
  clear hu hB
  rcases hcase with h1 | ⟨h1, h2⟩ | ⟨h1, h2⟩
  all_goals
    go_enter Try.func68, Try.ntmps68
    go_wp2
    go_loopw [3, 4] (fun s b wr => ∃ u2 : Nat, s = .int .u64 (u2 : Int) ∧ As (u2 ≤ 4611686018427387904) ∧ As (Sofar v w b u2 wr)) (fun s _ _ => (intOf s).toNat)
    case atStart => exact ⟨u, by congr 1; rw [HU.out]; unfold cl; split <;> (try split) <;> omega, HB, H0⟩
    case round =>
      obtain ⟨u2, rfl, HU2, ⟨pre, hpre, ho, hk⟩⟩ := hrel
      obtain ⟨m, hm⟩ : ∃ m, pre.length = m := ⟨_, rfl⟩
      have HO := As.mk ho
      have HO1 : As (wr.ownsRow 0 5 1 u4 m (iv .u8 pre)) := ⟨by rw [← hm]; exact ho.1⟩
      have HK := As.mk hk
      have HP := As.mk hpre
      have HM := As.mk hm
      clear ho hk hpre hm
      have HBD : As (m + 1 ≤ 140737488355328) := by
        constructor
        have h2 := num_len v
        have h3 := enc_pos u2
        have h4 := HM.out
        rw [← HP.out] at h2
        simp only [List.length_append] at h2
        omega
      by_cases hge : 128 ≤ u2
      · have hor := or128' u2 HU2.out
        go_wp2_with (at_builtin; refine clone.app8_one rfl (.tmp 13) (.tmp 18) rfl u4 m (iv .u8 pre) rfl HO1.out ((u2 : Int) % 128 + 128) rfl HBD.out ?_; intro v1 w1 o1 k1 a1; have O1 := As.mk (own_app HO.out HM.out (Nat.le_succ_of_le HK.out.size) o1 a1); have K1 := As.mk (kp_app HK.out ((Kp.refl [] wr).alloc _) HO.out.2 k1); clear o1 k1 a1)
        go_roundw
        case rel => exact ⟨u2 / 128, by go_num, ⟨by have := HU2.out; omega⟩, ⟨pre ++ [(u2 : Int) % 128 + 128], by rw [← HP.out, enc_hi (u := u2) (by omega), List.append_assoc, List.singleton_append], O1.out, K1.out⟩⟩
        case measure => simp [intOf]; omega
      · go_wp2_with (at_builtin; refine clone.app8_one rfl (.tmp 22) (.tmp 25) rfl u4 m (iv .u8 pre) rfl HO1.out (u2 : Int) rfl HBD.out ?_; intro v1 w1 o1 k1 a1; have O1 := As.mk (own_app HO.out HM.out (Nat.le_succ_of_le HK.out.size) o1 a1); have K1 := As.mk (kp_app HK.out ((Kp.refl [] wr).alloc _) HO.out.2 k1); clear o1 k1 a1)
        go_ret
        exact ⟨v1, rfl, by have h9 := O1.out; rw [← HP.out, enc_lo (u := u2) (by omega)]; exact h9, K1.out⟩

end Go.Proofs.Ytlknlpiiogmfbaa.ref
