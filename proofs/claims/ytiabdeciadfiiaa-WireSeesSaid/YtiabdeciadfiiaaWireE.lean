/- A request's record, cut short, changed, longer, taken for a reply's: plain words. -/
import Derived.Test.YtiabdeciadfiiaaWireD
import Derived.Test.YtiabdeciadfiiaaBase
namespace Go.Proofs.Ytiabdeciadfiiaa.wir
open Go.RowKit H O opk frame

theorem fDec_torn {p : List Int} (r : List Int) (j : Nat) (hp : p.length ≤ 1048576) (hj : j < p.length + 12) : (fDec ((fEnc p ++ r).take j)).2.2 ≠ 0 := by
  intro h0
  obtain ⟨h8, _, _⟩ := fDec_zero h0
  have hpos := fDec_pos h0
  have hl : ((fEnc p ++ r).take j).length ≤ j := by rw [List.length_take]; omega
  have hj8 : 8 ≤ j := by omega
  have hu : unf ((fEnc p ++ r).take j) = p.length := by
    rw [unf_take (by omega), fEnc, List.append_assoc, List.append_assoc]
    exact unf_head (by omega) (by omega) _
  have hk : (fDec ((fEnc p ++ r).take j)).2.1 = 12 + p.length := by
    have h := h0
    unfold fDec at h ⊢
    split at h
    · cases h
    · split at h
      · cases h
      · split at h
        · cases h
        · split at h
          · cases h
          · split at h
            · cases h
            · rename_i h1 h2 h3 h4 h5
              rw [if_neg h1, if_neg h2, if_neg h3, if_neg h4, if_neg h5, hu]
              rfl
  omega

theorem one_torn {p : List Int} (j : Nat) (hp : p.length ≤ 1048576) (hj : j < p.length + 12) : (fOne ((fEnc p).take j)).2 ≠ 0 := by
  have h := fDec_torn [] j hp hj
  rw [List.append_nil] at h
  rw [fOne, if_neg (by rintro ⟨h1, _⟩; exact h h1)]
  exact h
theorem one_sees {p : List Int} {k : Nat} {z : Int} (hp : p.length ≤ 1048576) (hw : Wf p) (hk : k < (fEnc p).length) (hz : 0 ≤ z ∧ z < 256) (hne : z ≠ (fEnc p)[k]) : (fOne ((fEnc p).set k z)).2 ≠ 0 := by
  obtain ⟨e, h1, h2⟩ := fDec_sees (more := []) hp hw hk hz hne
  rw [List.append_nil] at h1
  rw [fOne, if_neg (by rw [h1]; rintro ⟨h3, _⟩; exact h2 h3), h1]
  exact h2
theorem one_more {p : List Int} (hp : p.length ≤ 1048576) : (fOne (fEnc p ++ [0])).2 = 3 := by
  have h := fDec_enc [0] hp
  rw [fOne, if_pos (by rw [h]; refine ⟨rfl, ?_⟩; rw [List.length_append, fEnc_len]; simp)]
theorem one_same {p : List Int} (hp : p.length ≤ 1048576) : fOne (fEnc p) = (p, 0) := by
  have h := fDec_enc [] hp
  rw [List.append_nil] at h
  rw [fOne, if_neg (by rw [h]; rintro ⟨_, h2⟩; exact h2 (by rw [fEnc_len])), h]
theorem pay_cons (mark : Int) (vs xs : List Int) : pay mark vs xs = mark :: (nums vs ++ row xs) := by simp [pay]
end Go.Proofs.Ytiabdeciadfiiaa.wir
