/- octet.Sum and the document's Sum. -/
import Derived.Test.YtiabdeciadfiiaaBase
import Derived.Test.YtiabdeciadfiiaaProg
namespace Go.Proofs.Ytiabdeciadfiiaa.sum
open Go.RowKit H O

set_option maxHeartbeats 4000000 in
set_option maxRecDepth 100000 in
theorem sum_any (A : Option Addr) (n c : Nat) (l : List (List Int)) (S : List Nat) (w : World) (hn : l.length = n) (h0 : Rs S w A l) (hm : n ≤ 140737488351232) (hm2 : ∀ x ∈ l, x.length ≤ 140737488351232) (hw : ∀ x ∈ l, ∀ y ∈ x, 0 ≤ y ∧ y < 256) :
    Calls Try.prog 89 #[.slice A n c] w fun e w' => e = .returned (.int .u32 (crc l.flatten)) ∧ w' = w := by
  subst hn
  have H0 := As.mk h0
  have HM := As.mk hm2
  have HW := As.mk hw
  clear h0 hm2 hw
  go_enter Try.func89, Try.ntmps89
  go_wp2
  go_loop [3, 10] (fun v i => ∃ (k : Nat) (u : BitVec 32), i = .int .i64 (k : Int) ∧ v = .int .u32 (u.toNat : Int) ∧ k ≤ l.length ∧ As (u = crcF 4294967295#32 (l.take k).flatten)) (fun _ i => l.length - (intOf i).toNat)
  case atStart => exact ⟨0, 4294967295#32, rfl, rfl, by omega, ⟨rfl⟩⟩
  case round =>
    obtain ⟨k, u, rfl, rfl, hk, HU⟩ := hrel
    by_cases hlt : k < l.length
    · obtain ⟨a, Aj, cj, rfl, _, d0, _, _, hr⟩ := H0.out k hlt
      have hx := HM.out l[k] (by simp)
      have hw := HW.out l[k] (by simp)
      obtain ⟨x, hxe⟩ : ∃ x, x = l[k] := ⟨_, rfl⟩
      rw [← hxe] at d0 hr hx hw
      have HX := As.mk hxe
      have HRR := As.mk hr
      have HWW := As.mk hw
      clear hxe hr hw
      go_wp2
      go_loop [3, 16] (fun v i => ∃ (j : Nat) (t : BitVec 32), i = .int .i64 (j : Int) ∧ v = .int .u32 (t.toNat : Int) ∧ j ≤ x.length ∧ As (t = crcF u (x.take j))) (fun _ i => x.length - (intOf i).toNat)
      case atStart => exact ⟨0, u, rfl, rfl, by omega, ⟨rfl⟩⟩
      case round =>
        obtain ⟨j, t, rfl, rfl, hj, HT⟩ := hrel
        by_cases hlt2 : j < x.length
        · obtain ⟨a2, rfl, d1⟩ := HRR.out.int j hlt2
          have hc := HWW.out x[j] (by simp)
          obtain ⟨y, hy⟩ : ∃ y, y = x[j] := ⟨_, rfl⟩
          rw [← hy] at d1 hc
          have HY := As.mk hy
          clear hy
          have hy32 := As.mk (byte_bv y hc.1 hc.2)
          have hxy : bits .xor .u32 (t.toNat : Int) y = ((t ^^^ BitVec.ofInt 32 y).toNat : Int) := by rw [← xor_bv, hy32.out]
          obtain ⟨z, hz⟩ : ∃ z, z = t ^^^ BitVec.ofInt 32 y := ⟨_, rfl⟩
          rw [← hz] at hxy
          have HZ := As.mk hz
          clear hz
          go_wp2
          go_loop [3, 24] (fun v i => ∃ (m : Nat) (r : BitVec 32), i = .int .i64 (m : Int) ∧ v = .int .u32 (r.toNat : Int) ∧ m ≤ 8 ∧ As (r = sts m z)) (fun _ i => 8 - (intOf i).toNat)
          case atStart => exact ⟨0, z, rfl, rfl, by omega, ⟨rfl⟩⟩
          case round =>
            clear hxy d0 d1
            obtain ⟨m, r, rfl, rfl, hm8, HRS⟩ := hrel
            by_cases hlt3 : m < 8
            · have hst := st_walk r
              go_wp2
              go_round
              case rel => exact ⟨m + 1, st r, by go_num, rfl, by omega, ⟨by rw [HRS.out]; rfl⟩⟩
              case measure => simp [intOf]; omega
            · obtain rfl : m = 8 := by omega
              go_wp2
              go_round
              case rel => exact ⟨j + 1, r, by go_num, rfl, by omega, ⟨by rw [HRS.out, HZ.out, HT.out, take_succ' x j hlt2, crcF, crcF, List.foldl_append, ← HY.out]; rfl⟩⟩
              case measure => simp [intOf]; omega
        · go_wp2
          go_round
          case rel => exact ⟨k + 1, t, by go_num, rfl, by omega, ⟨by rw [HT.out, HU.out, List.take_of_length_le (l := x) (i := j) (by omega), HX.out, take_succ' l k hlt, List.flatten_append, crcF, crcF, crcF, List.foldl_append]; simp⟩⟩
          case measure => simp [intOf]; omega
    · have hnot : bits .xor .u32 IntKind.u32.max (u.toNat : Int) = crc l.flatten := by
        rw [not_bv, HU.out, List.take_of_length_le (l := l) (i := k) (by omega)]
        rfl
      go_wp2
      go_ret
      exact ⟨rfl, rfl⟩

end Go.Proofs.Ytiabdeciadfiiaa.sum
