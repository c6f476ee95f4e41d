/- The walk of OctetNums: any numbers as bytes, and back. -/
import Derived.Test.YtdafiblehgeddaaKnown1
import Derived.Test.YtdafiblehgeddaaRef2
import Derived.Test.YtdafiblehgeddaaReader2
import Derived.Deep.RegionHeld3
namespace Go.Proofs.Ytdafiblehgeddaa.haystacklaw1
open Go.RowKit H O

theorem stNum_nums (xs : List Int) (k : Nat) (h : k < xs.length) : stNum (some (nums (xs.drop k))) = (cl xs[k], some (nums (xs.drop (k + 1)))) := by
  rw [List.drop_eq_getElem_cons h, nums_cons, stNum_num]

theorem below_of_long {w : World} : Below w.heap.size w w := Below.refl _ _

set_option maxHeartbeats 16000000 in
set_option maxRecDepth 100000 in
theorem nums_law (A : Option Addr) (n c : Nat) (xs : List Int) (hl : xs.length = n) (w : World) (hr : Rd w A (iv .i64 xs)) (hm : n ≤ 9223372036854775807) :
    Calls Try.prog 4 #[.slice A n c] w fun e w' => e = .returned (.bool true) ∧ Below w.heap.size w w' := by
  by_cases h5 : 500 < n
  · have h5' : (500 : Int) < (n : Int) := by omega
    go_enter Try.func4, Try.ntmps4
    go_wp2
    go_ret
    exact ⟨rfl, Below.refl _ _⟩
  · have HR := As.mk hr
    have HL := As.mk hl
    obtain ⟨m, hm⟩ : ∃ m, (nums xs).length = m := ⟨_, rfl⟩
    have hm9 : m ≤ 4500 := by have := nums_len xs; omega
    have HM := As.mk hm
    have HN := As.mk (writer.nums_any w.heap.size none [] A n c xs (w.alloc (.cells #[.slice none 0 0] 25)) (writer.Wr.new w) hl (RdS.new hr ((Kp.refl [] w).alloc _) (by simp)) (by simp; omega))
    clear hr hm hl
    go_enter Try.func4, Try.ntmps4
    have HWF : As (Wf (nums xs)) := ⟨nums_u8 xs⟩
    go_wp2_with (go_at_call 12; refine HN.out.mono ?_; rintro e w1 ⟨rfl, g1, W1, A1, K1⟩; rw [List.nil_append] at W1; have HW1 := As.mk W1; have HK1 : As (Kp [] w w1) := ⟨((Kp.refl [] w).alloc _).trans K1 (by simp)⟩; have HO := As.mk (writer.out_any w.heap.size g1 _ w1 W1 (by rw [HM.out]; omega)); clear W1 A1 K1)
    go_wp2_with (go_at_call 13; refine HO.out.mono ?_; rintro e w2 ⟨v2, rfl, O2, K2⟩; have O2' := O2.1; rw [HM.out] at O2'; obtain ⟨A2, c2, rfl, hc2, _, R2, N2⟩ := own_rd O2'; have HK2 : As (Kp [] w1 w2) := ⟨K2⟩; have HO2 := As.mk O2'; have HLO2 := As.mk O2.2; have HR2 := As.mk R2; have HN2 := As.mk N2; have HF := As.mk (ref.nums_any A n c xs w2 HL.out ((HK1.out.trans K2 (by simp)).rd_new HR.out (by simp)) (by omega)); clear O2 O2' K2 R2 N2)
    go_wp2_with (go_at_call 15; refine HF.out.mono ?_; rintro e w3 ⟨v3, rfl, O3, K3⟩; have O3' := O3.1; rw [HM.out] at O3'; obtain ⟨A3, c3, rfl, _, _, R3, _⟩ := own_rd O3'; have HK3 : As (Kp [] w2 w3) := ⟨K3⟩; have HS := As.mk (same_any A2 A3 m c2 m c3 (nums xs) (nums xs) w3 HM.out HM.out (K3.rd_new HR2.out (by simp)) R3 (by rw [HM.out]; omega)); clear O3 O3' K3 R3)
    go_wp2_with (go_at_call 14; refine HS.out.mono ?_; rintro e w4 ⟨rfl, n4, hw4⟩; have HK4 : As (Kp [] w2 w4) := ⟨by rw [hw4]; exact HK3.out.drewN _⟩; have HNR := As.mk (reader.new_any A2 m c2 (nums xs) w4 HM.out (HK4.out.rd_new HR2.out (by simp)) HN2.out (by omega) HWF.out); clear hw4)
    go_wp2_with (go_at_call 16; refine HNR.out.mono ?_; rintro e w5 ⟨b5, g5, rfl, _, _, _, K5⟩; have HK5 : As (Kp [] w2 w5) := ⟨HK4.out.trans K5 (by simp)⟩; have HSP := As.mk (spoil_any (.slice A2 m c2) m (iv .u8 (nums xs)) w5 (HK5.out.own HO2.out (by simp)) (by omega)); clear K5)
    go_wp2_with (go_at_call 17; refine HSP.out.mono ?_; rintro e w6 ⟨rfl, K6⟩; have HK6 : As (Kp [] w1 w6) := ⟨(HK2.out.trans HK5.out (by simp)).row K6 (fun x hx => .inr (HLO2.out x hx))⟩; have HO7 := As.mk (writer.out_any w.heap.size g1 _ w6 (HW1.out.kp HK6.out (by simp) (by simp)) (by rw [HM.out]; omega)); clear K6)
    go_wp2_with (go_at_call 13; refine HO7.out.mono ?_; rintro e w7 ⟨v7, rfl, O7, K7⟩; have O7' := O7.1; rw [HM.out] at O7'; obtain ⟨A7, c7, rfl, _, _, R7, N7⟩ := own_rd O7'; have HK7 : As (Kp [] w w7) := ⟨(HK1.out.trans HK6.out (by simp)).trans K7 (by simp)⟩; have HNR7 := As.mk (reader.new_any A7 m c7 (nums xs) w7 HM.out R7 N7 (by omega) HWF.out); clear O7 O7' K7 R7 N7)
    go_wp2_with (go_at_call 16; refine HNR7.out.mono ?_; rintro e w8 ⟨b8, g8, rfl, R8, hb8, hg8, K8⟩; have HK8 : As (Kp [] w w8) := ⟨HK7.out.trans K8 (by simp)⟩; have HR8 := As.mk R8; have HB8 : As (w.heap.size ≤ b8) := ⟨Nat.le_trans HK7.out.size hb8⟩; clear R8 hb8 hg8 K8)
    go_loopw [6] (fun i wr => ∃ k : Nat, i = .int .i64 (k : Int) ∧ k ≤ n ∧ As (∃ g, reader.Rdr wr b8 g (some (nums (xs.drop k)))) ∧ As (Kp [] w wr)) (fun i _ => n - (intOf i).toNat)
    case atStart => exact ⟨0, rfl, by omega, ⟨g8, HR8.out⟩, HK8⟩
    case round =>
      obtain ⟨k, rfl, hk, ⟨g, hR⟩, HK⟩ := hrel
      by_cases hlt : k < n
      · have hlx : k < xs.length := by rw [HL.out]; exact hlt
        obtain ⟨a, rfl, d0⟩ := (show Rd wr A (iv .i64 xs) from HK.out.rd_new HR.out (by simp)).int k hlx
        have HAB : As (a.block < w.heap.size) := by
          constructor
          obtain ⟨a', ha', hc'⟩ := HR.out.int k hlx
          cases ha'
          have := World.block_lt_of_cell? w _ hc'
          rwa [add_block] at this
        have HST := As.mk (stNum_nums xs k hlx)
        obtain ⟨x, hx⟩ : ∃ x, x = xs[k] := ⟨_, rfl⟩
        rw [← hx] at d0 HST
        obtain ⟨u, hu⟩ : ∃ u, u = cl x := ⟨_, rfl⟩
        have hmin : ∀ w, (Builtin.min_ #[3, 3] 3 #[.int .i64 x, .int .i64 4611686018427387904]).run Try.prog w = .ok (.int .i64 (min x 4611686018427387904)) w := fun w => by rw [writer.min_two]; congr 2; omega
        have hmax : ∀ w, (Builtin.max_ #[3, 3] 3 #[.int .i64 0, .int .i64 (min x 4611686018427387904)]).run Try.prog w = .ok (.int .i64 (u : Int)) w := fun w => by rw [writer.max_two]; congr 2; rw [cl_if, hu]
        have HNM := As.mk (reader.num_any b8 g _ wr.drew (hR.kp (Kp.refl [] wr).drew (by simp) (by simp)) (by have h9 := nums_len (xs.drop k); have h8 := HL.out; simp only [left, Option.getD_some]; rw [List.length_drop] at h9; omega))
        rw [HST.out, ← hu] at HNM
        clear hu hx hR HST
        go_wp2
        go_region_held3 (fun w' => w'.cell? (a.add k) = some (.int .i64 x)) (first | exact d0 | exact d1) (first | (go_at_call 18; refine HNM.out.mono ?_; rintro e w1 HP; obtain rfl := HP.1; obtain ⟨_, g2, R2, G2, K2⟩ := HP; have HR2 := As.mk R2; have HK2 : As (Kp [] w w1) := ⟨HK.out.drew.trans K2 (by intro y hy; right; have := HB8.out; simp at hy; omega)⟩; have d1 : w1.cell? (a.add k) = some (.int .i64 x) := K2.cell (w := wr.drew) d0 (by rw [add_block]; have h7 := HB8.out; have h6 := HAB.out; simp; omega); clear R2 G2 K2))
        all_goals
          go_wp2
          go_roundw
          case rel => exact ⟨k + 1, by go_num, by omega, ⟨_, HR2.out⟩, HK2⟩
          case measure => simp [intOf]; omega
      · have e : xs.drop k = [] := List.drop_of_length_le (by rw [HL.out]; omega)
        rw [e] at hR
        have HG := As.mk (reader.good_any b8 g _ wr hR)
        have HW := As.mk (reader.whole_any b8 g _ wr hR)
        clear hR e
        go_wp2_with (first
          | (go_at_call 19; refine HG.out.mono ?_; rintro e w9 ⟨rfl, rfl⟩)
          | (go_at_call 20; refine HW.out.mono ?_; rintro e w9 ⟨rfl, rfl⟩; rw [show reader.whole (some (nums [])) = true from rfl])
          | (go_at_call 11; refine (known_any _).mono ?_; rintro e w9 ⟨rfl, hk9⟩; have HK9 : As (Kp [] w w9) := ⟨HK.out.trans hk9 (by simp)⟩; clear hk9))
        go_ret
        exact ⟨rfl, HK9.out.below⟩

theorem nums_row (w : World) (A : Option Addr) (n c : Nat) (xs : List Int) (hl : xs.length = n) (hr : Rd w A (iv .i64 xs)) (_hc : n ≤ c) (_hm : c ≤ 9223372036854775807) (_hn : A = none → c = 0)
    (_hw : ∀ x ∈ xs, (Lit.int .i64 x).wf = true) (_hz : n * 8 ≤ 140737488351232) :
    Calls Try.prog 4 #[.slice A n c] w fun e w' => e = .returned (.bool true) ∧ Below w.heap.size w w' := nums_law A n c xs hl w hr (by omega)

end Go.Proofs.Ytdafiblehgeddaa.haystacklaw1
