/- Package op: within, isKey, what an op's bytes are. -/
import Derived.Test.YtlknlpiiogmfbaaWriter
import Derived.Lib.ConvBytes
import Derived.Test.YtlknlpiiogmfbaaVals
namespace Go.Proofs.Ytlknlpiiogmfbaa.O
open Go.RowKit H

/-- a string's bytes -/
def kb (s : ByteArray) : List Int := s.data.toList.map fun b => (b.toNat : Int)
theorem kb_len (s : ByteArray) : (kb s).length = s.size := by
  rw [kb, List.length_map, Array.length_toList]
  rfl
theorem kb_wf (s : ByteArray) : Wf (kb s) := by
  intro x hx
  obtain ⟨b, _, rfl⟩ := List.mem_map.1 hx
  have := b.toNat_lt
  omega
theorem kb_inj {s t : ByteArray} (h : kb s = kb t) : s = t := by
  unfold kb at h
  have h2 : s.data.toList = t.data.toList := (List.map_inj_right (fun a b hab => UInt8.toNat_inj.1 (by omega))).1 h
  cases s
  cases t
  congr
  exact Array.toList_inj.1 h2

/-- numbers from 0 to 2^40 -/
def within1 (x : Int) : Bool := decide (0 ≤ x) && decide (x ≤ 1099511627776)
/-- which error an op has -/
def opErr (k cl sq : Int) (kn n : Nat) : Int :=
  if (k ≠ 1 ∧ k ≠ 2) ∨ (within1 cl && within1 sq) = false ∨ ¬ (1 ≤ kn ∧ kn ≤ 64) ∨ (k = 2 ∧ 0 < n) then 1 else if 4096 < n then 5 else 0
def opBytes (k cl sq : Int) (key : ByteArray) (text : List Int) : List Int := nums [k, cl, sq] ++ rows [kb key, text]

theorem kp_bytes {S : List Nat} {w w1 : World} (h : Kp S w w1) (e : TypeId) (s : ByteArray) : Kp S w (Lib.bytesWorld w1 e s) :=
  h.trans (T := []) ⟨rfl, rfl, rfl, by rw [Lib.bytesWorld_size]; omega, fun k hk _ => Lib.bytesWorld_at_old w1 e s k hk⟩ (by simp)
theorem rd_bytes (w : World) (e : TypeId) (s : ByteArray) : Rd (Lib.bytesWorld w e s) (some ⟨w.heap.size, 0, none⟩) (iv .u8 (kb s)) := by
  intro j v hv
  refine ⟨_, rfl, ?_⟩
  rw [Addr.add_lit, Nat.zero_add]
  have hj : j < s.size := by
    have := (List.getElem?_eq_some_iff.1 hv).1
    rwa [iv_len, kb_len] at this
  rw [Lib.bytesWorld_cell w e s j hj, ← hv]
  have hj2 : j < s.data.size := hj
  have e : s.data[j]? = some s.data[j] := Array.getElem?_eq_getElem hj2
  simp only [iv, kb, List.getD, List.getElem?_map, Array.getElem?_toList, e, Option.map_some, Option.getD_some]
end Go.Proofs.Ytlknlpiiogmfbaa.O
namespace Go.Proofs.Ytlknlpiiogmfbaa.opk
open Go.RowKit H O

set_option maxHeartbeats 2000000 in
theorem within_any (A : Option Addr) (n c : Nat) (xs : List Int) (w : World) (hn : xs.length = n) (h0 : Rd w A (iv .i64 xs)) (hm : n ≤ 4611686018427387904) :
    Calls Try.prog 56 #[.slice A n c] w fun e w' => e = .returned (.bool (xs.all within1)) ∧ w' = w := by
  subst hn
  have HR := As.mk h0
  clear h0
  go_enter Try.func56, Try.ntmps56
  go_wp2
  go_loopw [7] (fun i wr => ∃ k : Nat, i = .int .i64 (k : Int) ∧ k ≤ xs.length ∧ As ((xs.take k).all within1 = true) ∧ As (wr = w)) (fun i _ => xs.length - (intOf i).toNat)
  case atStart => exact ⟨0, rfl, by omega, ⟨rfl⟩, ⟨rfl⟩⟩
  case round =>
    obtain ⟨k, rfl, hk, HA, ⟨rfl⟩⟩ := hrel
    by_cases hlt : k < xs.length
    · obtain ⟨a, rfl, d0⟩ := HR.out.int k hlt
      have hsplit : xs.all within1 = ((xs.take k).all within1 && within1 xs[k] && (xs.drop (k + 1)).all within1) := by
        have e : xs = xs.take k ++ xs[k] :: xs.drop (k + 1) := by rw [List.getElem_cons_drop, List.take_append_drop]
        conv => lhs; rw [e]
        rw [List.all_append, List.all_cons, Bool.and_assoc]
      have hstep : (xs.take (k + 1)).all within1 = ((xs.take k).all within1 && within1 xs[k]) := by
        rw [take_succ' xs k hlt, List.all_append]
        simp
      rw [HA.out] at hsplit hstep
      obtain ⟨x, hx⟩ : ∃ x, x = xs[k] := ⟨_, rfl⟩
      rw [← hx] at d0 hsplit hstep
      have HSP := As.mk hsplit
      have HST := As.mk hstep
      clear hsplit hstep hx
      by_cases h1 : x < 0
      · have hw : within1 x = false := by unfold within1; rw [decide_eq_false (by omega)]; rfl
        have HW := As.mk hw
        clear hw
        go_wp2
        go_ret
        exact ⟨by rw [HSP.out, HW.out]; rfl, rfl⟩
      · by_cases h2 : 1099511627776 < x
        · have hw : within1 x = false := by unfold within1; rw [decide_eq_false (show ¬ x ≤ 1099511627776 by omega)]; simp
          have HW := As.mk hw
          clear hw
          go_wp2
          go_ret
          exact ⟨by rw [HSP.out, HW.out]; rfl, rfl⟩
        · have hw : within1 x = true := by unfold within1; rw [decide_eq_true (by omega), decide_eq_true (by omega)]; rfl
          have HW := As.mk hw
          clear hw
          go_wp2
          go_roundw
          case rel => exact ⟨k + 1, by go_num, by omega, ⟨by rw [HST.out, HW.out]; rfl⟩, ⟨trivial⟩⟩
          case measure => simp [intOf]; omega
    · have e : xs.take k = xs := List.take_of_length_le (by omega)
      rw [e] at HA
      clear e
      go_wp2
      go_ret
      exact ⟨by rw [HA.out]; rfl, rfl⟩

theorem isKey_any (s : ByteArray) (w : World) : Calls Try.prog 57 #[.string s] w fun e w' => e = .returned (.bool (decide (1 ≤ s.size ∧ s.size ≤ 64))) ∧ w' = w := by
  obtain ⟨n, hn⟩ : ∃ n, s.size = n := ⟨_, rfl⟩
  by_cases h1 : 1 ≤ n
  · have h1' : (1 : Int) ≤ (n : Int) := by omega
    by_cases h2 : n ≤ 64
    · have h2' : (n : Int) ≤ 64 := by omega
      go_enter Try.func57, Try.ntmps57
      go_wp2
      go_ret
      exact ⟨by rw [decide_eq_true (by omega)]; rfl, rfl⟩
    · have h2' : ¬ (n : Int) ≤ 64 := by omega
      go_enter Try.func57, Try.ntmps57
      go_wp2
      go_ret
      exact ⟨rfl, rfl⟩
  · have h1' : ¬ (1 : Int) ≤ (n : Int) := by omega
    go_enter Try.func57, Try.ntmps57
    go_wp2
    go_ret
    exact ⟨rfl, rfl⟩

end Go.Proofs.Ytlknlpiiogmfbaa.opk
