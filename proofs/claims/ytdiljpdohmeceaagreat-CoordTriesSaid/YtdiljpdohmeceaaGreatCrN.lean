/- haystackref20.Shard, haystackref15.Group, haystackref24: Left, add, Get. -/
import Derived.Test.YtdiljpdohmeceaaGreatCrH
import Derived.Deep.QuietTactic
import Derived.BigQuiet
import Derived.Deep.RegionLaw
namespace Go.Proofs.YtdiljpdohmeceaaGreat.co.cr
open Go.RowKit H O opk frame wir

theorem shard_any (key : ByteArray) (n : Nat) (w : World) (hz : key.size ≤ 140737488351232) (h1 : 1 ≤ n) (h8 : n ≤ 8) : Calls Tryz.prog 23 #[.string key, .int .i64 (n : Int)] w fun e w' => e = .returned (.tuple #[.int .i64 (shardOf (kb key) n : Int), .int .i64 0]) ∧ w' = w := by
  have hp := hashL_pos (kb key)
  obtain ⟨H, hH⟩ : ∃ H, hashL (kb key) = H := ⟨_, rfl⟩
  have HH : As (∀ wX, Calls Tryz.prog 70 #[.string key] wX fun e w' => e = .returned (.int .u64 H) ∧ w' = wX) := ⟨fun wX => by rw [← hH]; exact hash_any key wX hz⟩
  have HS : As (shardOf (kb key) n = (H % (n : Int)).toNat) := ⟨by rw [shardOf, hH]⟩
  rw [hH] at hp
  obtain ⟨p0, p1⟩ := hp
  have n0 : (0 : Int) < (n : Int) := by omega
  have n1 : ¬ (n : Int) < 1 := by omega
  have n2 : ¬ (8 : Int) < (n : Int) := by omega
  clear hz hH
  go_enter Tryz.func23, Tryz.ntmps23
  go_wp2_with (go_at_call 70; refine (HH.out _).mono ?_; rintro e w2 ⟨rfl, rfl⟩; clear HH)
  go_ret2
  refine ⟨?_, rfl⟩
  have q0 := Int.emod_nonneg H (show (n : Int) ≠ 0 by omega)
  have q1 := Int.emod_lt_of_pos H n0
  have e : wrap64 (H % (n : Int)) = (((H % (n : Int)).toNat : Nat) : Int) := by
    generalize H % (n : Int) = q at q0 q1 ⊢
    rw [wrap64]
    omega
  rw [HS.out, ← e]
  rfl
theorem key_any (key : ByteArray) (w : World) : Calls Tryz.prog 79 #[.string key] w fun e w' => e = .returned (.bool (decide (1 ≤ key.size ∧ key.size ≤ 64))) ∧ w' = w := by
  obtain ⟨n, hn⟩ : ∃ n, key.size = n := ⟨_, rfl⟩
  by_cases h1 : 1 ≤ n
  · have h1' : (1 : Int) ≤ (n : Int) := by omega
    by_cases h2 : n ≤ 64
    · have h2' : (n : Int) ≤ 64 := by omega
      go_enter Tryz.func79, Tryz.ntmps79
      go_wp2
      go_ret
      exact ⟨by rw [decide_eq_true (by omega)]; rfl, rfl⟩
    · have h2' : ¬ (n : Int) ≤ 64 := by omega
      go_enter Tryz.func79, Tryz.ntmps79
      go_wp2
      go_ret
      exact ⟨rfl, rfl⟩
  · have h1' : ¬ (1 : Int) ≤ (n : Int) := by omega
    go_enter Tryz.func79, Tryz.ntmps79
    go_wp2
    go_ret
    exact ⟨rfl, rfl⟩

set_option maxHeartbeats 4000000 in
theorem left_any (U : List Nat) (w : World) (L : RLay) (cf : Cfg) (s : Cs) (hC : RsSt U w L cf s) (hb : s.ended + s.jobs.length ≤ 1000000) : Calls Tryz.prog 69 #[.pointer (some ⟨L.b, 0, none⟩)] w fun e w' => e = .returned (.int .i64 (s.jobs.length : Int)) ∧ ∃ q, w' = w.drewN q := by
  obtain ⟨κ, VS, VW, VL, VA, VD, h⟩ := hC
  obtain ⟨past, vs, h1, h2, h3, h4⟩ := h.jq
  obtain ⟨A, c, rfl, _⟩ := own_rd h2
  obtain ⟨n, hn⟩ : ∃ n, s.jobs.length = n := ⟨_, rfl⟩
  obtain ⟨m, hm⟩ : ∃ n, s.ended = n := ⟨_, rfl⟩
  have hd := h.hd
  rw [hn, hm] at hd hb
  obtain ⟨t, ht⟩ : ∃ t, m + n = t := ⟨_, rfl⟩
  rw [ht] at hd
  have b5 : w.cell? ⟨L.b, 5, none⟩ = some (.slice A t c) := blk_cell hd 5 rfl
  have b6 : w.cell? ⟨L.b, 6, none⟩ = some (.int .i64 (m : Int)) := blk_cell hd 6 rfl
  have HN := As.mk hn
  have i0 : (t : Int) - (m : Int) = (n : Int) := by omega
  have i1 : IntKind.i64.wrap ((t : Int) - (m : Int)) = (n : Int) := by rw [IntKind.wrap_i64]; omega
  clear h h1 h2 h3 h4 hd ht hn hm i0
  go_enter Tryz.func69, Tryz.ntmps69
  go_wp2_with fail
  go_quiet (fail)
  go_wp2_with fail
  go_ret
  exact ⟨by rw [HN.out]; rfl, _, rfl⟩

set_option maxHeartbeats 4000000 in
set_option maxRecDepth 100000 in
theorem group_good (A : Option Addr) (n c : Nat) (xs : List Int) (w : World) (hn : xs.length = n) (hr : Rd w A (iv .i64 xs)) (hg : Grp xs) : Calls Tryz.prog 73 #[.slice A n c] w fun e w' => e = .returned (.bool true) ∧ Kp [] w w' := by
  obtain ⟨⟨h1, h7⟩, hG⟩ := hg
  rw [hn] at h1 h7
  have HR := As.mk hr
  have HN := As.mk hn
  have HG := As.mk hG
  clear hr hn hG
  go_enter Tryz.func73, Tryz.ntmps73
  go_wp2
  go_loopw [3] (fun i wr => ∃ k : Nat, i = .int .i64 (k : Int) ∧ k ≤ n ∧ As (Kp [] w wr)) (fun i _ => n - (intOf i).toNat)
  case atStart => exact ⟨0, rfl, by omega, ⟨Kp.refl _ _⟩⟩
  case round =>
    obtain ⟨k, rfl, hk, HK⟩ := hrel
    by_cases hlt : k < n
    · have hk' : k < xs.length := by rw [HN.out]; exact hlt
      obtain ⟨⟨g0, g1⟩, g2⟩ := HG.out k hk'
      obtain ⟨b, o, rfl, d0⟩ := int_at ((HK.out.rd_new HR.out (by simp))) k hk'
      obtain ⟨y, hy⟩ : ∃ y, xs[k] = y := ⟨_, rfl⟩
      rw [hy] at g0 g1 d0
      have i0 : (0 : Int) ≤ (k : Int) := by omega
      have i1 : (k : Int) < (n : Int) := by omega
      have hd : decide (y < 0) = false := by simpa using g0
      have hd2 : decide (7 ≤ y) = false := by simpa using g1
      by_cases hk0 : k = 0
      · subst hk0
        rw [Nat.add_zero] at d0
        have g9 : ¬ 0 < (0 : Nat) := by omega
        clear g2 hy
        go_wp2
        go_quiet (fail)
        go_wp2
        go_roundw
        case rel => exact ⟨1, by go_num, by omega, ⟨HK.out.drewN _⟩⟩
        case measure => simp [intOf]; omega
      · obtain ⟨j, rfl⟩ : ∃ j, k = j + 1 := ⟨k - 1, by omega⟩
        have g3 := g2 (by omega)
        obtain ⟨_, _, e, d1⟩ := int_at ((HK.out.rd_new HR.out (by simp))) j (by omega)
        cases e
        obtain ⟨z, hz⟩ : ∃ z, xs[j] = z := ⟨_, rfl⟩
        rw [hy] at g3
        have g4 : z < y := by rw [← hz]; exact g3
        rw [hz] at d1
        have i5 : ¬ y ≤ z := by omega
        clear g2 g3 hy hz
        go_wp2
        go_quiet (fail)
        go_wp2
        go_roundw
        case rel => exact ⟨j + 1 + 1, by go_num, by omega, ⟨HK.out.drewN _⟩⟩
        case measure => simp [intOf]; omega
    · have i6 : (n : Int) ≤ 7 := by omega
      go_wp2
      go_ret
      exact ⟨rfl, HK.out⟩
end Go.Proofs.YtdiljpdohmeceaaGreat.co.cr
