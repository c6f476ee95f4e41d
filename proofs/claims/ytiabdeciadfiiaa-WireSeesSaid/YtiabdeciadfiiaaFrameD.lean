/- frame.One, frame.Scan. -/
import Derived.Test.YtiabdeciadfiiaaFrameC
namespace Go.Proofs.Ytiabdeciadfiiaa.O
open Go.RowKit H

def fOne (b : List Int) : List Int × Int := if (fDec b).2.2 = 0 ∧ (fDec b).2.1 ≠ b.length then ([], 3) else ((fDec b).1, (fDec b).2.2)
theorem fDec_pos {b : List Int} (h : (fDec b).2.2 = 0) : 12 ≤ (fDec b).2.1 ∧ (fDec b).2.1 ≤ b.length := by
  unfold fDec at h ⊢
  split at h
  · cases h
  · split at h
    · cases h
    · split at h
      · cases h
      · split at h
        · cases h
        · split at h
          · cases h
          · rename_i h1 h2 h3 h4 h5
            rw [if_neg h1, if_neg h2, if_neg h3, if_neg h4, if_neg h5]
            simp only
            omega
/-- what records hold, one behind the other -/
def fScan (b : List Int) : List (List Int) × Nat :=
  if _h : b ≠ [] ∧ (fDec b).2.2 = 0 then
    ((fDec b).1 :: (fScan (b.drop (fDec b).2.1)).1, (fDec b).2.1 + (fScan (b.drop (fDec b).2.1)).2)
  else ([], 0)
termination_by b.length
decreasing_by
  have := fDec_pos _h.2
  rw [List.length_drop]
  omega
theorem fScan_end {b : List Int} (h : b = [] ∨ (fDec b).2.2 ≠ 0) : fScan b = ([], 0) := by
  rw [fScan, dif_neg]
  rintro ⟨h1, h2⟩
  rcases h with h | h
  · exact h1 h
  · exact h h2
theorem fScan_step {b : List Int} (h : b ≠ []) (h2 : (fDec b).2.2 = 0) : fScan b = ((fDec b).1 :: (fScan (b.drop (fDec b).2.1)).1, (fDec b).2.1 + (fScan (b.drop (fDec b).2.1)).2) := by
  rw [fScan, dif_pos ⟨h, h2⟩]
theorem fDec_nil : (fDec []).2.2 ≠ 0 := by rw [fDec, if_pos (by decide)]; decide
theorem fDec_wf {b : List Int} (h : Wf b) : Wf (fDec b).1 := by
  unfold fDec
  repeat' split
  all_goals first
    | exact Wf.nil
    | exact (h.take _).drop _
end Go.Proofs.Ytiabdeciadfiiaa.O
namespace Go.Proofs.Ytiabdeciadfiiaa.frame
open Go.RowKit H O joins

/-- behind One -/
def FOne (xs : List Int) (w : World) (e : Ending) (w' : World) : Prop :=
  ∃ v, e = .returned (.tuple #[v, .int .i64 (fOne xs).2]) ∧ Own 5 .u8 w' w.heap.size v (fOne xs).1 ∧ Kp [] w w'

set_option maxHeartbeats 4000000 in
theorem one_any (A : Option Addr) (n c : Nat) (xs : List Int) (w : World) (hn : xs.length = n) (hr : Rd w A (iv .u8 xs)) (hc : n ≤ c) (hw : Wf xs) (hm : n ≤ 140737488351232) :
    Calls Try.prog 84 #[.slice A n c] w (FOne xs w) := by
  have HD := dec_any A n c xs w hn hr hc hw hm
  unfold FDec at HD
  obtain ⟨e, he⟩ : ∃ e, (fDec xs).2.2 = e := ⟨_, rfl⟩
  obtain ⟨k, hk⟩ : ∃ k, (fDec xs).2.1 = k := ⟨_, rfl⟩
  rw [he, hk] at HD
  have HD := As.mk HD
  by_cases h0 : e = 0
  · subst h0
    by_cases h1 : k = n
    · subst h1
      have HE : As (fOne xs = ((fDec xs).1, 0)) := ⟨by rw [fOne, if_neg (by rw [hk]; omega), he]⟩
      clear hr hw hn he hk
      go_enter Try.func84, Try.ntmps84
      go_wp2_with (go_at_call 90; refine HD.out.mono ?_; rintro e w1 ⟨v, rfl, o1, k1⟩; have HO := As.mk o1; have HK := As.mk k1; clear o1 k1)
      go_ret2
      refine ⟨v, by rw [HE.out]; rfl, ?_, HK.out⟩
      rw [HE.out]
      exact HO.out
    · have HE : As (fOne xs = ([], 3)) := ⟨by rw [fOne, if_pos ⟨he, by rw [hk]; omega⟩]⟩
      have hkn : ((k : Int) != (n : Int)) = true := by simp; omega
      clear hr hw hn he hk
      go_enter Try.func84, Try.ntmps84
      go_wp2_with (go_at_call 90; refine HD.out.mono ?_; rintro e w1 ⟨v, rfl, o1, k1⟩; have HK := As.mk k1; clear o1 k1)
      go_ret2
      refine ⟨_, by rw [HE.out]; rfl, ?_, HK.out⟩
      rw [HE.out]
      exact Own.nil _ _ _ _
  · have HE : As (fOne xs = ((fDec xs).1, e)) := ⟨by rw [fOne, if_neg (by rw [he]; omega), he]⟩
    have h0b : (e == 0) = false := by simpa using h0
    clear hr hw hn he hk
    go_enter Try.func84, Try.ntmps84
    go_wp2_with (go_at_call 90; refine HD.out.mono ?_; rintro e w1 ⟨v, rfl, o1, k1⟩; have HO := As.mk o1; have HK := As.mk k1; clear o1 k1)
    go_ret2
    refine ⟨v, by rw [HE.out]; rfl, ?_, HK.out⟩
    rw [HE.out]
    exact HO.out
end Go.Proofs.Ytiabdeciadfiiaa.frame
