/- The document's Reader: Bad, Raw, Num, Bytes, Whole. -/
import Derived.Test.YtlknlpiiogmfbaaApp
import Derived.Test.YtlknlpiiogmfbaaClone
import Derived.Test.YtlknlpiiogmfbaaRdrB
namespace Go.Proofs.Ytlknlpiiogmfbaa.refr
open Go.RowKit H O

theorem bad_any (b : Nat) (g : Option Nat) (s : Option (List Int)) (w : World) (hR : Rdr w b g s) :
    Calls Try.prog 74 #[.pointer (some ⟨b, 0, none⟩)] w (RdrPost b g (.tuple #[]) none w) := by
  obtain ⟨A, c, hb, rfl, hr, hl, hm, hn, hne, hw⟩ := hR
  have c0 := blk_cell hb 0 rfl
  have c1 := blk_cell hb 1 rfl
  have f0 := blk_free hb 0
  have f1 := blk_free hb 1
  have HB := As.mk (Rdr.bad (g := A.map Addr.block) rfl hb).2
  clear hb hr hl hm hn hne hw
  go_enter Try.func74, Try.ntmps74
  go_wp2
  go_end0
  exact HB.out

theorem whole_any (b : Nat) (g : Option Nat) (s : Option (List Int)) (w : World) (hR : Rdr w b g s) :
    Calls Try.prog 75 #[.pointer (some ⟨b, 0, none⟩)] w fun e w' => e = .returned (.bool (whole s)) ∧ w' = w := by
  obtain ⟨A, c, hb, rfl, _⟩ := hR
  have c0 := blk_cell hb 0 rfl
  have c1 := blk_cell hb 1 rfl
  clear hb
  rcases s with _ | ⟨_ | ⟨x, l⟩⟩
  · go_enter Try.func75, Try.ntmps75
    go_wp2
    go_ret
    exact ⟨rfl, rfl⟩
  · go_enter Try.func75, Try.ntmps75
    go_wp2
    go_ret
    exact ⟨rfl, rfl⟩
  · have hl : (((left (some (x :: l))).length : Int) == 0) = false := by simp [left]; omega
    go_enter Try.func75, Try.ntmps75
    go_wp2
    go_ret
    exact ⟨rfl, rfl⟩

set_option maxHeartbeats 4000000 in
theorem raw_any (b : Nat) (g : Option Nat) (s : Option (List Int)) (n : Int) (w : World) (hR : Rdr w b g s) (hb : (left s).length ≤ 70368744177664) :
    Calls Try.prog 79 #[.pointer (some ⟨b, 0, none⟩), .int .i64 n] w (RawPost b g (stRaw n s) w) := by
  have HBAD := As.mk (bad_any b g s w hR)
  have HRR := As.mk hR
  obtain ⟨A, c, hb0, rfl, hr, hl, hm, hn, hne, hw⟩ := hR
  obtain ⟨len, hlen⟩ : ∃ len, (left s).length = len := ⟨_, rfl⟩
  rw [hlen] at hb0 hl hb
  have c0 := blk_cell hb0 0 rfl
  have c1 := blk_cell hb0 1 rfl
  have HB := As.mk hb0
  have HR := As.mk hr
  have HL := As.mk hlen
  have HN := As.mk hn
  clear hb0 hr hn hne hw hlen
  by_cases h0 : n < 0
  · have HS := As.mk (stRaw_bad (s := s) (.inl h0))
    go_enter Try.func79, Try.ntmps79
    go_wp2_with (go_at_call 74; refine HBAD.out.mono ?_; rintro e w1 HP; obtain rfl := HP.1; have HPA := As.mk HP; obtain ⟨_, g1, ⟨A1, k1, hb1, _⟩, _⟩ := HP; have c11 := blk_cell hb1 1 rfl; clear hb1)
    go_ret
    rw [HS.out]
    exact ⟨_, rfl, Own.nil _ _ _ _, HPA.out.2⟩
  · by_cases h1 : (len : Int) < n
    · have HS := As.mk (stRaw_bad (s := s) (n := n) (.inr (by rw [HL.out]; exact h1)))
      go_enter Try.func79, Try.ntmps79
      go_wp2_with (go_at_call 74; refine HBAD.out.mono ?_; rintro e w1 HP; obtain rfl := HP.1; have HPA := As.mk HP; obtain ⟨_, g1, ⟨A1, k1, hb1, _⟩, _⟩ := HP; have c11 := blk_cell hb1 1 rfl; clear hb1)
      go_ret
      rw [HS.out]
      exact ⟨_, rfl, Own.nil _ _ _ _, HPA.out.2⟩
    · obtain ⟨m, rfl⟩ := Int.eq_ofNat_of_zero_le (by omega : 0 ≤ n)
      have hml : m ≤ len := by omega
      have hbl := HRR.out.lt
      clear h0 h1
      cases s with
      | none =>
        go_enter Try.func79, Try.ntmps79
        go_wp2
        go_ret
        exact ⟨_, rfl, Own.nil _ _ _ _, _, HRR.out, .inl rfl, Kp.refl _ _⟩
      | some l =>
        have HS := As.mk (stRaw_good (s := some l) (m := m) (by rw [HL.out]; exact hml))
        cases A with
        | none =>
          have hc := HN.out rfl
          subst hc
          obtain rfl : len = 0 := by omega
          obtain rfl : m = 0 := by omega
          go_enter Try.func79, Try.ntmps79
          go_wp2_with (at_builtin; refine clone.app8 rfl (.tmp 23) (.tmp 29) rfl (.slice (some ⟨w.heap.size, 0, none⟩) 0 0) 0 [] rfl (own_new w [] _ (Nat.zero_le _)) none 0 0 [] rfl rfl (Rd.nil _ _) (by simp) (by simp) (by omega) ?_; intro v1 w1 o1 k1 a1; obtain ⟨A1, c1', rfl, _⟩ := own_rd o1; have ho := own_of_app (k := .u8) (lo := w.heap.size) (ys := []) rfl o1 a1 (by simp) (by simp [Value.ownBlock]); have hk := kp_of_new k1; have hb1 := hk.blk HB.out (by simp); have c01 := blk_cell hb1 0 rfl; have f01 := blk_free hb1 0; have HO := As.mk ho; have HK := As.mk hk; have HB1 := As.mk hb1; clear o1 k1 a1 ho hk hb1)
          go_ret
          show RawPost _ _ (stRaw ((0 : Nat) : Int) (some l)) _ _ _
          rw [HS.out]
          exact raw_nil HRR.out HL.out HB1.out (by simpa using HO.out) HK.out
        | some a =>
          go_enter Try.func79, Try.ntmps79
          go_wp2_with (at_builtin; refine clone.app8 rfl (.tmp 23) (.tmp 29) rfl (.slice (some ⟨w.heap.size, 0, none⟩) 0 0) 0 [] rfl (own_new w [] _ (Nat.zero_le _)) (some a) m c (iv .u8 (l.take m)) rfl (by rw [iv_len, List.length_take]; have h9 := HL.out; simp only [left, Option.getD_some] at h9; omega) (((Kp.refl [] w).alloc _).rd_new (by rw [← iv_take]; exact HR.out.take m) (by simp)) (by simp) (iv_one _ _) (by omega) ?_; intro v1 w1 o1 k1 a1; obtain ⟨A1, c1', rfl, _⟩ := own_rd o1; have ho := own_of_app (k := .u8) (lo := w.heap.size) (ys := l.take m) (by rw [List.length_take]; have h9 := HL.out; simp only [left, Option.getD_some] at h9; omega) o1 a1 (by simp) (by simp [Value.ownBlock]); have hk := kp_of_new k1; have hb1 := hk.blk HB.out (by simp); have c01 := blk_cell hb1 0 rfl; have f01 := blk_free hb1 0; have HO := As.mk ho; have HK := As.mk hk; have HB1 := As.mk hb1; clear o1 k1 a1 ho hk hb1)
          all_goals go_ret
          all_goals rw [HS.out]
          · exact raw_ok HRR.out HL.out HB1.out (by have h9 := HO.out; rw [Nat.zero_add] at h9; exact h9) HK.out (a' := a) (by rw [← iv_drop, List.drop_of_length_le (by rw [iv_len, HL.out]; omega)]; exact Rd.nil _ _) rfl (by omega) (by omega)
          · exact raw_ok HRR.out HL.out HB1.out (by have h9 := HO.out; rw [Nat.zero_add] at h9; exact h9) HK.out (a' := a.add m) (by rw [← iv_drop]; exact HR.out.drop _) (add_block _ _) (by omega) (by omega)

end Go.Proofs.Ytlknlpiiogmfbaa.refr
