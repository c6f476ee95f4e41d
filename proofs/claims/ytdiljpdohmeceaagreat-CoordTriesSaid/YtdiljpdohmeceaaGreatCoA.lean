/- place.Hash, place.Shard (some number), coord.isGroup of a group, slices.Clone of numbers. -/
import Derived.Test.YtdiljpdohmeceaaGreatBase
namespace Go.Proofs.YtdiljpdohmeceaaGreat.co
open Go.RowKit H O opk frame

def SomeU (v : Value) : Prop := ∃ t : Int, v = .int .u64 t
theorem SomeU.mk (t : Int) : SomeU (.int .u64 t) := ⟨t, rfl⟩

set_option maxHeartbeats 4000000 in
set_option maxRecDepth 100000 in
theorem hash_any (key : ByteArray) (w : World) (hz : key.size ≤ 140737488351232) : Calls Tryz.prog 109 #[.string key] w fun e w' => ∃ x : Int, e = .returned (.int .u64 x) ∧ Kp [] w w' := by
  obtain ⟨m, hkm⟩ : ∃ m, key.size = m := ⟨_, rfl⟩
  have hcv := Lib.run_convert_string_bytes (P := Tryz.prog) w 9 24 5 key Tryz.underlying9 Tryz.underlying24 Tryz.underlying5
  rw [hkm] at hcv hz
  have hrk := rds_bytes (S := []) w 5 key (by simp)
  have HK := As.mk (kp_bytes (Kp.refl [] w) 5 key)
  obtain ⟨w1, hw1⟩ : ∃ w1, Lib.bytesWorld w 5 key = w1 := ⟨_, rfl⟩
  rw [hw1] at hrk HK hcv
  have HR := As.mk hrk
  have HM := As.mk (show (kb key).length = m by rw [kb_len, hkm])
  clear hrk hw1 hkm
  go_enter Tryz.func109, Tryz.ntmps109
  go_wp2
  go_loopw [3, 9] (fun h i wr => SomeU h ∧ ∃ k : Nat, i = .int .i64 (k : Int) ∧ k ≤ m ∧ wr = w1) (fun _ i _ => m - (intOf i).toNat)
  case atStart => exact ⟨SomeU.mk _, 0, rfl, by omega, rfl⟩
  case round =>
    obtain ⟨⟨h, rfl⟩, k, rfl, hk, rfl⟩ := hrel
    by_cases hlt : k < m
    · obtain ⟨a, ha, d0⟩ := HR.out.rd.int k (by rw [HM.out]; exact hlt)
      cases ha
      rw [Addr.add_lit, Nat.zero_add] at d0
      have i0 : (0 : Int) ≤ (k : Int) := by omega
      have i1 : (k : Int) < (m : Int) := by omega
      go_wp2
      go_roundw
      case rel => exact ⟨SomeU.mk _, k + 1, by go_num, by omega, by first | rfl | trivial⟩
      case measure => simp [intOf]; omega
    · go_wp2
      go_ret
      exact ⟨_, rfl, HK.out⟩

theorem shard_any (key : ByteArray) (n : Int) (w : World) (hz : key.size ≤ 140737488351232) (hn : n = 2) : Calls Tryz.prog 75 #[.string key, .int .i64 n] w fun e w' => ∃ x : Int, e = .returned (.tuple #[.int .i64 x, .int .i64 0]) ∧ Kp [] w w' := by
  subst hn
  have HM : As (∀ wX, Calls Tryz.prog 108 #[.int .i64 2] wX fun e w' => e = .returned (.bool true) ∧ Kp [] wX w') := ⟨fun wX => by
    go_enter Tryz.func108, Tryz.ntmps108
    go_wp2
    go_ret
    exact ⟨rfl, Kp.refl _ _⟩⟩
  have HH := As.mk (fun wX => hash_any key wX hz)
  clear hz
  go_enter Tryz.func75, Tryz.ntmps75
  go_wp2_with (first
    | (go_at_call 108; refine (HM.out _).mono ?_; rintro e w1 ⟨rfl, k1⟩; have HK1 := As.mk k1; clear k1 HM)
    | (go_at_call 109; refine (HH.out w1).mono ?_; rintro e w2 ⟨x, rfl, k2⟩; have HK2 : As (Kp [] w w2) := ⟨HK1.out.trans k2 (by simp)⟩; clear k2 HH))
  go_ret2
  exact ⟨_, rfl, HK2.out⟩
theorem int_at {w : World} {A : Option Addr} {xs : List Int} (h : Rd w A (iv .i64 xs)) (i : Nat) (hi : i < xs.length) : ∃ b o, A = some ⟨b, o, none⟩ ∧ w.cell? ⟨b, o + i, none⟩ = some (.int .i64 xs[i]) := by
  obtain ⟨a, ha, c0⟩ := h.int i hi
  obtain ⟨z, hz, cz⟩ := h.int 0 (by omega)
  rw [ha] at hz
  cases hz
  obtain ⟨b, o, s⟩ := a
  obtain rfl : s = none := by simpa [Addr.add] using World.cell?_spot cz
  rw [Go.WideShapes.add_plain] at c0
  exact ⟨b, o, ha, c0⟩
/-- a group -/
def Grp (xs : List Int) : Prop := (1 ≤ xs.length ∧ xs.length ≤ 7) ∧ ∀ i (h : i < xs.length), (0 ≤ xs[i] ∧ xs[i] < 7) ∧ (∀ h0 : 0 < i, xs[i - 1]'(by omega) < xs[i])
set_option maxHeartbeats 4000000 in
set_option maxRecDepth 100000 in
theorem group_good (A : Option Addr) (n c : Nat) (xs : List Int) (w : World) (hn : xs.length = n) (hr : Rd w A (iv .i64 xs)) (hg : Grp xs) : Calls Tryz.prog 71 #[.slice A n c] w fun e w' => e = .returned (.bool true) ∧ Kp [] w w' := by
  obtain ⟨⟨h1, h7⟩, hG⟩ := hg
  rw [hn] at h1 h7
  have HR := As.mk hr
  have HN := As.mk hn
  have HG := As.mk hG
  clear hr hn hG
  go_enter Tryz.func71, Tryz.ntmps71
  go_wp2
  go_loopw [7] (fun i wr => ∃ k : Nat, i = .int .i64 (k : Int) ∧ k ≤ n ∧ As (Kp [] w wr)) (fun i _ => n - (intOf i).toNat)
  case atStart => exact ⟨0, rfl, by omega, ⟨Kp.refl _ _⟩⟩
  case round =>
    obtain ⟨k, rfl, hk, HK⟩ := hrel
    by_cases hlt : k < n
    · have hk' : k < xs.length := by rw [HN.out]; exact hlt
      obtain ⟨⟨g0, g1⟩, g2⟩ := HG.out k hk'
      obtain ⟨b, o, rfl, d0⟩ := int_at ((HK.out.rd_new HR.out (by simp))) k hk'
      obtain ⟨y, hy⟩ : ∃ y, xs[k] = y := ⟨_, rfl⟩
      rw [hy] at g0 g1 d0
      have i0 : (0 : Int) ≤ (k : Int) := by omega
      have i1 : (k : Int) < (n : Int) := by omega
      by_cases hk0 : k = 0
      · subst hk0
        rw [Nat.add_zero] at d0
        clear g2 hy
        go_wp2
        go_roundw
        case rel => exact ⟨1, by go_num, by omega, HK⟩
        case measure => simp [intOf]; omega
      · have g3 := g2 (by omega)
        obtain ⟨_, _, e, d1⟩ := int_at ((HK.out.rd_new HR.out (by simp))) (k - 1) (by omega)
        cases e
        obtain ⟨z, hz⟩ : ∃ z, xs[k - 1] = z := ⟨_, rfl⟩
        rw [hy] at g3
        rw [hz] at g3 d1
        have i2 : (0 : Int) < (k : Int) := by omega
        have i3 : IntKind.i64.wrap ((k : Int) - 1) = ((k - 1 : Nat) : Int) := by rw [IntKind.wrap_i64]; omega
        have i4 : ((k - 1 : Nat) : Int) < (n : Int) := by omega
        have i5 : ¬ y ≤ z := by omega
        clear g2 hy hz
        go_wp2
        go_roundw
        case rel => exact ⟨k + 1, by go_num, by omega, HK⟩
        case measure => simp [intOf]; omega
    · have i6 : (n : Int) ≤ 7 := by omega
      go_wp2
      go_ret
      exact ⟨rfl, HK.out⟩
end Go.Proofs.YtdiljpdohmeceaaGreat.co
