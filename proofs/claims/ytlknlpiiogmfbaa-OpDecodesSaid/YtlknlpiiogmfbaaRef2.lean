/- The document's Nums and Bytes. -/
import Derived.Test.YtlknlpiiogmfbaaRef
namespace Go.Proofs.Ytlknlpiiogmfbaa.ref
open Go.RowKit H O

theorem own_apps {w1 wr : World} {b v1 : Value} {pre ys : List Int} {m lo n k : Nat} (ho : Own 5 .u8 wr lo b pre) (hm : pre.length = m) (hk : ys.length = k) (hlo : lo ≤ n)
    (o1 : w1.ownsRow 0 5 1 v1 (m + k) (iv .u8 pre ++ iv .u8 ys)) (a1 : At n b.ownBlock v1.ownBlock) : Own 5 .u8 w1 lo v1 (pre ++ ys) := by
  subst hm hk
  exact ⟨by simpa [iv] using o1, a1.ge hlo ho.2⟩

set_option maxHeartbeats 4000000 in
theorem nums_any (A : Option Addr) (n c : Nat) (vs : List Int) (w : World) (hn : vs.length = n) (h0 : Rd w A (iv .i64 vs)) (hb : n ≤ 7036874417766) :
    Calls Try.prog 61 #[.slice A n c] w (RetOwn 5 .u8 w (nums vs)) := by
  subst hn
  have HR := As.mk h0
  clear h0
  go_enter Try.func61, Try.ntmps61
  go_wp2
  go_loopw [3, 4] (fun b i wr => ∃ k : Nat, i = .int .i64 (k : Int) ∧ k ≤ vs.length ∧ As (Own 5 .u8 wr w.heap.size b (nums (vs.take k)) ∧ Kp [] w wr)) (fun _ i _ => vs.length - (intOf i).toNat)
  case atStart => exact ⟨0, rfl, by omega, ⟨Own.nil _ _ _ _, Kp.refl _ _⟩⟩
  case round =>
    obtain ⟨k, rfl, hk, HH⟩ := hrel
    have HO := As.mk HH.out.1
    have HK := As.mk HH.out.2
    clear HH
    by_cases hlt : k < vs.length
    · obtain ⟨a, rfl, d0⟩ := (show Rd wr A (iv .i64 vs) from HK.out.rd_new HR.out (by simp)).int k hlt
      obtain ⟨x, hx⟩ : ∃ x, x = vs[k] := ⟨_, rfl⟩
      rw [← hx] at d0
      obtain ⟨m, hm⟩ : ∃ m, (nums (vs.take k)).length = m := ⟨_, rfl⟩
      have HX := As.mk hx
      have HM := As.mk hm
      have HBD : As (m + (num x).length ≤ 140737488355328) := by
        constructor
        have h1 := nums_len (vs.take k)
        have h2 := num_len x
        rw [List.length_take] at h1
        omega
      clear hx hm
      go_wp2_with (first
        | (go_at_call 68; refine (num_any x _).mono ?_; rintro e w1 ⟨v, rfl, ho1, hk1⟩; obtain ⟨A1, c1, rfl, hl1, hm1, hr1, hn1⟩ := own_rd ho1.1; have HO1 := As.mk (HO.out.kp hk1 (by simp)); have HOM : As (w1.ownsRow 0 5 1 u3 m (iv .u8 (nums (vs.take k)))) := ⟨by rw [← HM.out]; exact HO1.out.1⟩; have HK1 := As.mk hk1; have HR1 := As.mk hr1; have HN1 := As.mk hn1; clear ho1 hk1 hl1 hm1 hr1 hn1)
        | (at_builtin; refine clone.app8 rfl (.tmp 11) (.tmp 16) rfl u3 m (iv .u8 (nums (vs.take k))) rfl HOM.out A1 (num x).length c1 (iv .u8 (num x)) rfl (iv_len _ _) HR1.out HN1.out (iv_one _ _) HBD.out ?_; intro v2 w2 o2 k2 a2; have HO2 := As.mk (own_apps HO1.out HM.out rfl (Nat.le_trans HK.out.size HK1.out.size) o2 a2); have HK2 := As.mk ((HK.out.trans HK1.out (by simp)).row k2 (fun y hy => .inr (HO1.out.2 y hy))); clear o2 k2 a2))
      go_roundw
      case rel => exact ⟨k + 1, by go_num, by omega, ⟨by rw [nums_step vs k hlt, ← HX.out]; exact HO2.out, HK2.out⟩⟩
      case measure => simp [intOf]; omega
    · go_wp2
      go_ret
      have e : vs.take k = vs := List.take_of_length_le (by omega)
      rw [e] at HO
      exact ⟨_, rfl, HO.out, HK.out⟩

set_option maxHeartbeats 4000000 in
theorem bytes_any (A : Option Addr) (n c : Nat) (xs : List Int) (w : World) (hn : xs.length = n) (h0 : Rd w A (iv .u8 xs)) (hnil : A = none → c = 0) (hb : n ≤ 70368744177664) :
    Calls Try.prog 69 #[.slice A n c] w (RetOwn 5 .u8 w (row xs)) := by
  have HR := As.mk h0
  have HN := As.mk hnil
  have HL := As.mk hn
  clear h0 hnil hn
  obtain ⟨m, hm⟩ : ∃ m, (num (n : Int)).length = m := ⟨_, rfl⟩
  have HM := As.mk hm
  have hm9 : m ≤ 9 := by rw [← hm]; exact num_len _
  clear hm
  go_enter Try.func69, Try.ntmps69
  go_wp2_with (first
    | (go_at_call 68; refine (num_any _ _).mono ?_; rintro e w1 ⟨v, rfl, ho1, hk1⟩; have HO1 := As.mk ho1; have HOM : As (w1.ownsRow 0 5 1 v m (iv .u8 (num n))) := ⟨by rw [← HM.out]; exact ho1.1⟩; have HK1 := As.mk hk1; clear ho1 hk1)
    | (at_builtin; refine clone.app8 rfl (.tmp 5) (.tmp 6) rfl v m (iv .u8 (num n)) rfl HOM.out A n c (iv .u8 xs) rfl (by rw [iv_len, HL.out]) (HK1.out.rd_new HR.out (by simp)) HN.out (iv_one _ _) (by omega) ?_; intro v2 w2 o2 k2 a2; have HO2 := As.mk (own_apps HO1.out HM.out HL.out HK1.out.size o2 a2); have HK2 := As.mk (HK1.out.row k2 (fun y hy => .inr (HO1.out.2 y hy))); clear o2 k2 a2))
  go_ret
  exact ⟨_, rfl, by rw [row, HL.out]; exact HO2.out, HK2.out⟩

end Go.Proofs.Ytlknlpiiogmfbaa.ref
