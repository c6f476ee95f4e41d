/- slices.Clone of bytes. -/
import Derived.Test.YtdiljpdohmeceaaGreatCoA
import Derived.Test.YtdiljpdohmeceaaGreatBase
namespace Go.Proofs.YtdiljpdohmeceaaGreat.co
open Go.RowKit H O opk frame

theorem cloneb_any (A : Option Addr) (n c : Nat) (xs : List Int) (w : World) (hn : xs.length = n) (h0 : Rd w A (iv .u8 xs)) (hnil : A = none → c = 0) (hb : n ≤ 140737488351232) :
    Calls Tryz.prog 29 #[.slice A n c] w (RetOwn 5 .u8 w xs) := by
  subst hn
  have H0 := As.mk h0
  have HN := As.mk hnil
  clear h0 hnil
  cases A with
  | none =>
    have hx : xs = [] := iv_nil (rd_nil_of_none H0.out)
    subst hx
    have hc := HN.out rfl
    subst hc
    have hq := fun (w : World) => Lib.run_eql_slice_nil (P := Tryz.prog) w 24 5 none 0 0 0 0 Tryz.underlying24
    go_enter Tryz.func29, Tryz.ntmps29
    go_wp2
    go_ret
    exact ⟨_, rfl, Own.nil _ _ _ _, Kp.refl _ _⟩
  | some a =>
    have hq := fun (w : World) => Lib.run_eql_slice_nil (P := Tryz.prog) w 24 5 (some a) xs.length c 0 0 Tryz.underlying24
    go_enter Tryz.func29, Tryz.ntmps29
    go_wp2_with (at_builtin; refine clone.app8 rfl (.tmp 5) (.tmp 6) rfl (.slice (some ⟨w.heap.size, 0, none⟩) 0 0) 0 [] rfl (own_new w [] _ (Nat.zero_le _)) (some a) xs.length c (iv .u8 xs) rfl (by rw [iv_len]) (((Kp.refl [] w).alloc _).rd_new H0.out (by simp)) HN.out (iv_one _ _) (by omega) ?_; intro v1 w1 o1 k1 a1; have HO1 := As.mk o1; have HK1 := As.mk k1; have HA1 := As.mk a1; clear o1 k1 a1)
    go_ret
    exact ⟨_, rfl, own_of_app rfl HO1.out HA1.out (by simp) (by intro x hx; simp [Value.ownBlock] at hx; omega), kp_of_new HK1.out⟩
end Go.Proofs.YtdiljpdohmeceaaGreat.co
