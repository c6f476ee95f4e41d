/- place.Hash, place.Shard: a key's digest, a key's shard. -/
import Derived.Test.YtdiljpdohmeceaaGreatCoP
namespace Go.Proofs.YtdiljpdohmeceaaGreat.co
open Go.RowKit H O opk frame wir

theorem kb_get {key : ByteArray} {k : Nat} (h : k < (kb key).length) : 0 ≤ (kb key)[k] ∧ (kb key)[k] < 256 := kb_wf key _ (List.getElem_mem h)
theorem hash_ret {k : Nat} {l : List Int} {c x : Int} (hlt : k < l.length) (hc : l[k] = c) (hx : hashStep (hashL (l.take k)) c = x) : Value.int .u64 x = .int .u64 (hashL (l.take (k + 1))) := by
  rw [hashL_step l k hlt, hc, hx]
set_option maxHeartbeats 4000000 in
set_option maxRecDepth 100000 in
theorem hash_full (key : ByteArray) (w : World) (hz : key.size ≤ 140737488351232) : Calls Tryz.prog 109 #[.string key] w fun e w' => e = .returned (.int .u64 (hashL (kb key))) ∧ Kp [] w w' := by
  obtain ⟨m, hkm⟩ : ∃ m, key.size = m := ⟨_, rfl⟩
  have hcv := Lib.run_convert_string_bytes (P := Tryz.prog) w 9 24 5 key Tryz.underlying9 Tryz.underlying24 Tryz.underlying5
  rw [hkm] at hcv hz
  have hrk := rds_bytes (S := []) w 5 key (by simp)
  have HK := As.mk (kp_bytes (Kp.refl [] w) 5 key)
  obtain ⟨w1, hw1⟩ : ∃ w1, Lib.bytesWorld w 5 key = w1 := ⟨_, rfl⟩
  rw [hw1] at hrk HK hcv
  have HR := As.mk hrk
  have HM := As.mk (show (kb key).length = m by rw [kb_len, hkm])
  clear hrk hw1 hkm
  go_enter Tryz.func109, Tryz.ntmps109
  go_wp2
  go_loopw [3, 9] (fun h i wr => ∃ k : Nat, i = .int .i64 (k : Int) ∧ k ≤ m ∧ h = .int .u64 (hashL ((kb key).take k)) ∧ wr = w1) (fun _ i _ => m - (intOf i).toNat)
  case atStart => exact ⟨0, rfl, by omega, rfl, rfl⟩
  case round =>
    obtain ⟨k, rfl, hk, rfl, rfl⟩ := hrel
    by_cases hlt : k < m
    · have hlt' : k < (kb key).length := by rw [HM.out]; exact hlt
      obtain ⟨a, ha, d0⟩ := HR.out.rd.int k hlt'
      cases ha
      rw [Addr.add_lit, Nat.zero_add] at d0
      have hb := kb_get hlt'
      have i0 : (0 : Int) ≤ (k : Int) := by omega
      have i1 : (k : Int) < (m : Int) := by omega
      obtain ⟨c, hc⟩ : ∃ c, (kb key)[k] = c := ⟨_, rfl⟩
      rw [hc] at d0 hb
      obtain ⟨hb0, hb1⟩ := hb
      have HL := As.mk hlt'
      obtain ⟨H, hH⟩ : ∃ H, hashL ((kb key).take k) = H := ⟨_, rfl⟩
      obtain ⟨x, hx⟩ : ∃ x, hashStep (hashL ((kb key).take k)) c = x := ⟨_, rfl⟩
      have HE := As.mk (hash_ret hlt' hc hx)
      rw [hH] at hx
      rw [hH]
      have HX := As.mk hx
      clear hlt' hc hH hx
      go_wp2
      go_roundw
      case rel =>
        exact ⟨k + 1, by go_num, by omega, by rw [← HE.out, ← HX.out]; rfl, by first | rfl | trivial⟩
      case measure => simp [intOf]; omega
    · go_wp2
      go_ret
      have e : (kb key).take k = kb key := List.take_of_length_le (by rw [HM.out]; omega)
      exact ⟨by rw [e]; rfl, HK.out⟩

theorem shard_full (key : ByteArray) (n : Nat) (w : World) (hz : key.size ≤ 140737488351232) (h1 : 1 ≤ n) (h8 : n ≤ 8) : Calls Tryz.prog 75 #[.string key, .int .i64 (n : Int)] w fun e w' => e = .returned (.tuple #[.int .i64 (shardOf (kb key) n : Int), .int .i64 0]) ∧ Kp [] w w' := by
  have HM : As (∀ wX, Calls Tryz.prog 108 #[.int .i64 (n : Int)] wX fun e w' => e = .returned (.bool true) ∧ Kp [] wX w') := ⟨fun wX => by
    have i1 : (1 : Int) ≤ (n : Int) := by omega
    have i8 : (n : Int) ≤ 8 := by omega
    go_enter Tryz.func108, Tryz.ntmps108
    go_wp2
    go_ret
    exact ⟨rfl, Kp.refl _ _⟩⟩
  have hp := hashL_pos (kb key)
  obtain ⟨H, hH⟩ : ∃ H, hashL (kb key) = H := ⟨_, rfl⟩
  have HH : As (∀ wX, Calls Tryz.prog 109 #[.string key] wX fun e w' => e = .returned (.int .u64 H) ∧ Kp [] wX w') := ⟨fun wX => by rw [← hH]; exact hash_full key wX hz⟩
  have HS : As (shardOf (kb key) n = (H % (n : Int)).toNat) := ⟨by rw [shardOf, hH]⟩
  rw [hH] at hp
  obtain ⟨p0, p1⟩ := hp
  have n0 : (0 : Int) < (n : Int) := by omega
  clear hz hH
  go_enter Tryz.func75, Tryz.ntmps75
  go_wp2_with (first
    | (go_at_call 108; refine (HM.out _).mono ?_; rintro e w1 ⟨rfl, k1⟩; have HK1 := As.mk k1; clear k1 HM)
    | (go_at_call 109; refine (HH.out w1).mono ?_; rintro e w2 ⟨rfl, k2⟩; have HK2 : As (Kp [] w w2) := ⟨HK1.out.trans k2 (by simp)⟩; clear k2 HH))
  go_ret2
  refine ⟨?_, HK2.out⟩
  have q0 := Int.emod_nonneg H (show (n : Int) ≠ 0 by omega)
  have q1 := Int.emod_lt_of_pos H n0
  have e : wrap64 (H % (n : Int)) = (((H % (n : Int)).toNat : Nat) : Int) := by
    generalize H % (n : Int) = q at q0 q1 ⊢
    rw [wrap64]
    omega
  rw [HS.out, ← e]
  rfl
end Go.Proofs.YtdiljpdohmeceaaGreat.co
