/- haystacklaw13's helpers: roomy, stands, spoil. -/
import Derived.Test.YtlknlpiiogmfbaaApp
import Derived.Test.YtlknlpiiogmfbaaSame13
namespace Go.Proofs.Ytlknlpiiogmfbaa.haystacklaw13
open Go.RowKit H

theorem info_u8 : (Try.prog.info? 5).map (fun i => (i.zero, i.size, i.bytes)) = some (some (.int .u8 0), 1, 1) := by kernel_rfl

set_option maxHeartbeats 2000000 in
theorem roomy_any (A : Option Addr) (n c : Nat) (xs : List Int) (w : World) (hn : xs.length = n) (h0 : Rd w A (iv .u8 xs)) (hnil : A = none → c = 0) (hb : xs.length ≤ 70368744177664) :
    Calls Try.prog 40 #[.slice A n c] w (RetOwn 5 .u8 w (xs ++ [171])) := by
  subst hn
  have H0 := As.mk h0
  have HN := As.mk hnil
  clear h0 hnil
  go_enter Try.func40, Try.ntmps40
  go_wp2_with (first
    | (at_builtin; refine wpList_app rfl (.tmp 3) (.tmp 4) 22 rfl 5 (.int .u8 0) 1 1 Try.underlying22 info_u8 rfl (by decide) (.slice (some ⟨w.heap.size, 0, none⟩) 0 0) 0 [] rfl (own_new w [] _ (Nat.zero_le _)) A xs.length c (iv .u8 xs) rfl (by simp [iv]) (((Kp.refl [] w).alloc _).rd_new H0.out (by simp)) HN.out (iv_one _ _) (by omega) (by omega) ?_; intro v1 w1 o1 k1 a1 _; have O1 : As (w1.ownsRow 0 5 1 v1 xs.length (iv .u8 xs)) := ⟨by simpa using o1⟩; have K1 := As.mk k1; have A1 := As.mk a1; clear o1 k1 a1)
    | (at_builtin; refine wpList_app rfl (.tmp 5) (.tmp 6) 22 rfl 5 (.int .u8 0) 1 1 Try.underlying22 info_u8 rfl (by decide) v1 xs.length (iv .u8 xs) rfl (O1.out.alloc _) (some ⟨w1.heap.size, 0, none⟩) 1 1 [.int .u8 171] rfl rfl (rd_one _ _ _) (by simp) (by simp [Value.oneCell']) (by omega) (by omega) ?_; intro v2 w2 o2 k2 a2 _; have O2 := As.mk o2; have K2 := As.mk k2; have A2 := As.mk a2; clear o2 k2 a2)
    | (at_builtin; refine wpList_app rfl (.tmp 7) (.tmp 8) 22 rfl 5 (.int .u8 0) 1 1 Try.underlying22 info_u8 rfl (by decide) v2 (xs.length + 1) (iv .u8 xs ++ [.int .u8 171]) rfl (O2.out.alloc _) (some ⟨w2.heap.size, 0, none⟩) 1 1 [.int .u8 171] rfl rfl (rd_one _ _ _) (by simp) (by simp [Value.oneCell']) (by omega) (by omega) ?_; intro v3 w3 o3 k3 a3 _; obtain ⟨g, cap, rfl, hc1, hc2⟩ := own_form o3 (by omega); have O3 := As.mk o3; have K3 := As.mk k3; have A3 := As.mk a3; clear o3 k3 a3))
  go_ret
  have HK1 : Kp [] w w1 := ((Kp.refl [] w).alloc _).trans K1.out (by simp [Value.ownBlock])
  have lo1 : ∀ k, v1.ownBlock = some k → w.heap.size ≤ k := A1.out.ge (by simp) (by simp [Value.ownBlock])
  have HK2 : Kp [] w w2 := (HK1.alloc _).row K2.out (fun x hx => .inr (lo1 x hx))
  have lo2 : ∀ k, v2.ownBlock = some k → w.heap.size ≤ k := A2.out.ge (by have := HK1.size; simp; omega) lo1
  have HK3 : Kp [] w w3 := (HK2.alloc _).row K3.out (fun x hx => .inr (lo2 x hx))
  have lo3 := A3.out.ge (by have := HK2.size; simp; omega) lo2
  have e : (iv .u8 xs ++ [Value.int .u8 171] ++ [Value.int .u8 171]).take (xs.length + 1) = iv .u8 (xs ++ [171]) := by
    rw [List.take_left' (by simp [iv])]
    simp [iv]
  have O := own_take O3.out rfl (m := xs.length + 1) (by omega)
  rw [e] at O
  exact ⟨_, rfl, ⟨by simpa using O, lo3⟩, HK3⟩


theorem stands_split {zs ys : List Int} (hl : zs.length = ys.length + 1) (he : zs.take ys.length = ys) : zs = ys ++ [zs[ys.length]] := by
  have := (List.take_succ_eq_append_getElem (l := zs) (i := ys.length) (by omega)).symm
  rw [he, List.take_of_length_le (by omega)] at this
  exact this.symm

set_option maxHeartbeats 2000000 in
theorem stands_any (A0 A1 : Option Addr) (n0 c0 n1 c1 : Nat) (zs ys : List Int) (w : World) (l0 : zs.length = n0) (l1 : ys.length = n1) (h0 : Rd w A0 (iv .u8 zs)) (h1 : Rd w A1 (iv .u8 ys))
    (hc : n0 ≤ c0) (hm : zs.length ≤ 4611686018427387904) (hm1 : ys.length ≤ 4611686018427387904) :
    Calls Try.prog 42 #[.slice A0 n0 c0, .slice A1 n1 c1] w fun e w' => e = .returned (.bool (decide (zs = ys ++ [171]))) ∧ ∃ n, w' = w.drewN n := by
  subst l0 l1
  have H0 := As.mk h0
  have H1 := As.mk h1
  clear h0 h1
  by_cases hl : zs.length = ys.length + 1
  · have b1 : ((zs.length : Int) == (ys.length : Int) + 1) = true := by rw [beq_iff_eq]; omega
    have hlt : ys.length < zs.length := by omega
    obtain ⟨a0, rfl, d0⟩ := H0.out.int ys.length hlt
    have HL := As.mk hl
    clear hl
    have HS := As.mk (same_any (some a0) A1 ys.length c0 ys.length c1 (zs.take ys.length) ys w (by rw [List.length_take]; omega) rfl (by rw [← iv_take]; exact H0.out.take _) H1.out (by rw [List.length_take]; omega))
    by_cases he : zs.take ys.length = ys
    · by_cases hz : zs[ys.length] = 171
      · have b3 : (zs[ys.length] == 171) = true := by simpa using hz
        have e : decide (zs = ys ++ [171]) = true := by rw [decide_eq_true_eq, stands_split HL.out he, hz]
        have HE := As.mk he
        have HZ := As.mk hz
        have HR := As.mk e
        clear he hz e
        go_enter Try.func42, Try.ntmps42
        go_wp2_with (go_at_call 29; refine HS.out.mono ?_; rintro e w' ⟨rfl, n, rfl⟩; rw [decide_eq_true HE.out])
        go_ret
        exact ⟨ret_bool HR.out.symm, _, rfl⟩
      · have b3 : (zs[ys.length] == 171) = false := by simpa using hz
        have e : decide (zs = ys ++ [171]) = false := by
          rw [decide_eq_false_iff_not, stands_split HL.out he]
          intro h
          exact hz (by simpa using h)
        have HE := As.mk he
        have HZ := As.mk hz
        have HR := As.mk e
        clear he hz e
        go_enter Try.func42, Try.ntmps42
        go_wp2_with (go_at_call 29; refine HS.out.mono ?_; rintro e w' ⟨rfl, n, rfl⟩; rw [decide_eq_true HE.out])
        go_ret
        exact ⟨ret_bool HR.out.symm, _, rfl⟩
    · have e : decide (zs = ys ++ [171]) = false := by
        rw [decide_eq_false_iff_not]
        rintro rfl
        exact he (by simp)
      have HE := As.mk he
      have HR := As.mk e
      clear he e
      go_enter Try.func42, Try.ntmps42
      go_wp2_with (go_at_call 29; refine HS.out.mono ?_; rintro e w' ⟨rfl, n, rfl⟩; rw [decide_eq_false HE.out])
      go_ret
      exact ⟨ret_bool HR.out.symm, _, rfl⟩
  · have b1 : ((zs.length : Int) == (ys.length : Int) + 1) = false := by rw [beq_eq_false_iff_ne]; omega
    have e : decide (zs = ys ++ [171]) = false := by
      rw [decide_eq_false_iff_not]
      rintro rfl
      exact hl (by simp)
    have HL := As.mk hl
    have HR := As.mk e
    clear hl e
    go_enter Try.func42, Try.ntmps42
    go_wp2
    go_ret
    exact ⟨ret_bool HR.out.symm, 0, rfl⟩


end Go.Proofs.Ytlknlpiiogmfbaa.haystacklaw13
