/- A record of which one byte is another one is refused: the plain law. -/
import Derived.Test.YtiabdeciadfiiaaBase
namespace Go.Proofs.Ytiabdeciadfiiaa.O
open Go.RowKit H

theorem set_ne {l : List Int} {k : Nat} {z : Int} (hk : k < l.length) (hz : z ≠ l[k]) : l.set k z ≠ l := by
  intro h
  have h2 := congrArg (fun m => m[k]?) h
  simp [hk] at h2
  exact hz h2
theorem fDec_form (b : List Int) : (fDec b).2.2 = 0 ∨ fDec b = ([], 0, (fDec b).2.2) := by
  unfold fDec
  repeat' split
  all_goals first
    | exact .inr rfl
    | exact .inl rfl
theorem fDec_zero {b : List Int} (h : (fDec b).2.2 = 0) : 8 ≤ b.length ∧ b.take 8 = head (unf b) ∧ unf (b.drop (8 + (unf b).toNat)) = crc (b.take (8 + (unf b).toNat)) := by
  unfold fDec at h
  split at h
  · cases h
  · split at h
    · cases h
    · split at h
      · cases h
      · split at h
        · cases h
        · split at h
          · cases h
          · rename_i h1 h2 h3 h4 h5
            exact ⟨by omega, by simpa using h2, by simpa using h5⟩
theorem four_inj {a b : Int} (ha : 0 ≤ a ∧ a < 4294967296) (hb : 0 ≤ b ∧ b < 4294967296) (h : four a = four b) : a = b := by
  rw [← unf_four ha.1 ha.2, h, unf_four hb.1 hb.2]
theorem fDec_sees {p more : List Int} {k : Nat} {z : Int} (hp : p.length ≤ 1048576) (hw : Wf p) (hk : k < (fEnc p).length) (hz : 0 ≤ z ∧ z < 256) (hne : z ≠ (fEnc p)[k]) :
    ∃ e, fDec ((fEnc p).set k z ++ more) = ([], 0, e) ∧ e ≠ 0 := by
  obtain ⟨b, hb⟩ : ∃ b, b = (fEnc p).set k z ++ more := ⟨_, rfl⟩
  rw [← hb]
  by_cases h0 : (fDec b).2.2 = 0
  · exfalso
    obtain ⟨h8, hh, hc⟩ := fDec_zero h0
    have hwE := fEnc_wf hw
    have hkb : 0 ≤ (fEnc p)[k] ∧ (fEnc p)[k] < 256 := hwE _ (List.getElem_mem hk)
    have hlE := fEnc_len p
    have htk : ∀ m, m ≤ p.length + 12 → b.take m = ((fEnc p).take m).set k z := by
      intro m hm
      rw [hb, List.take_append_of_le_length (by rw [List.length_set]; omega), List.take_set]
    have hE8 : (fEnc p).take 8 = head p.length := by rw [fEnc, List.append_assoc, List.take_left' (head_len _)]
    have hEM : (fEnc p).take (8 + p.length) = head p.length ++ p := by rw [fEnc, List.take_left' (by rw [List.length_append, head_len])]
    have hED : (fEnc p).drop (8 + p.length) = four (crc (head p.length ++ p)) := by rw [fEnc, List.drop_left' (by rw [List.length_append, head_len])]
    have hE4 : (fEnc p).take 4 = four p.length := by rw [fEnc, head, List.append_assoc, List.append_assoc, List.take_left' (four_len _)]
    have hT : 0 ≤ (p.length : Int) ∧ (p.length : Int) < 4294967296 := by omega
    have hwb : Wf (b.take 4) := by
      rw [htk 4 (by omega)]
      intro x hx
      rcases List.mem_or_eq_of_mem_set hx with h | h
      · exact hwE x (List.mem_of_mem_take h)
      · omega
    have hu := unf_le hwb
    rw [unf_take (by omega)] at hu
    have hl4 : (b.take 4).length = 4 := by rw [List.length_take]; omega
    by_cases k8 : k < 8
    · have e8 := htk 8 (by omega)
      rw [hE8, hh] at e8
      have e4 := htk 4 (by omega)
      rw [hE4] at e4
      have f4 := four_unf hl4 hwb
      rw [unf_take (by omega)] at f4
      by_cases k4 : k < 4
      · have e48 : four (crc (four (unf b))) = four (crc (four p.length)) := by
          have h1 := congrArg (List.drop 4) e8
          rw [List.drop_set_of_lt (by omega), head, head, List.drop_left' (four_len _), List.drop_left' (four_len _)] at h1
          exact h1
        have e := four_inj (crc_le _) (crc_le _) e48
        rw [f4, e4] at e
        have hk4 : k < (four (p.length : Int)).length := by rw [four_len]; exact k4
        have hg : (four (p.length : Int))[k] = (fEnc p)[k] := by
          have h1 : ((fEnc p).take 4)[k]? = (fEnc p)[k]? := List.getElem?_take_of_lt k4
          rw [hE4, List.getElem?_eq_getElem hk4, List.getElem?_eq_getElem hk] at h1
          exact Option.some.inj h1
        exact crc_set hk4 (by rw [hg]; exact hkb) hz (by rw [hg]; exact hne) e
      · have e44 : b.take 4 = four p.length := by rw [e4, List.set_eq_of_length_le (by rw [four_len]; omega)]
        have hub : unf b = p.length := by rw [← unf_take (l := b) (k := 4) (by omega), e44, unf_four hT.1 hT.2]
        rw [hub] at e8
        have hk8 : k < (head (p.length : Int)).length := by rw [head_len]; exact k8
        have hg : (head (p.length : Int))[k] = (fEnc p)[k] := by
          have h1 : ((fEnc p).take 8)[k]? = (fEnc p)[k]? := List.getElem?_take_of_lt k8
          rw [hE8, List.getElem?_eq_getElem hk8, List.getElem?_eq_getElem hk] at h1
          exact Option.some.inj h1
        exact set_ne hk8 (by rw [hg]; exact hne) e8.symm
    · have e8 := htk 8 (by omega)
      rw [hE8, List.set_eq_of_length_le (by rw [head_len]; omega)] at e8
      have hub : unf b = p.length := by
        rw [← unf_take (l := b) (k := 8) (by omega), e8]
        have := unf_head hT.1 hT.2 []
        rwa [List.append_nil] at this
      rw [hub, Int.toNat_natCast] at hc
      have eM := htk (8 + p.length) (by omega)
      rw [hEM] at eM
      have eD : b.drop (8 + p.length) = ((fEnc p).set k z).drop (8 + p.length) ++ more := by rw [hb, List.drop_append_of_le_length (by rw [List.length_set]; omega)]
      by_cases kM : k < 8 + p.length
      · rw [List.drop_set_of_lt (by omega), hED] at eD
        rw [eD, unf_app (by rw [four_len]; omega), unf_four (crc_le _).1 (crc_le _).2, eM] at hc
        have hkM : k < (head (p.length : Int) ++ p).length := by rw [List.length_append, head_len]; exact kM
        have hg : (head (p.length : Int) ++ p)[k] = (fEnc p)[k] := by
          have h1 : ((fEnc p).take (8 + p.length))[k]? = (fEnc p)[k]? := List.getElem?_take_of_lt kM
          rw [hEM, List.getElem?_eq_getElem hkM, List.getElem?_eq_getElem hk] at h1
          exact Option.some.inj h1
        exact crc_set hkM (by rw [hg]; exact hkb) hz (by rw [hg]; exact hne) hc.symm
      · rw [List.set_eq_of_length_le (by rw [List.length_append, head_len]; omega)] at eM
        rw [List.drop_set, if_neg kM, hED] at eD
        rw [eD, unf_app (by rw [List.length_set, four_len]; omega), eM] at hc
        have hkD : k - (8 + p.length) < (four (crc (head (p.length : Int) ++ p))).length := by rw [four_len]; omega
        have hg : (four (crc (head (p.length : Int) ++ p)))[k - (8 + p.length)] = (fEnc p)[k] := by
          have h1 : ((fEnc p).drop (8 + p.length))[k - (8 + p.length)]? = (fEnc p)[k]? := by rw [List.getElem?_drop]; congr 1; omega
          rw [hED, List.getElem?_eq_getElem hkD, List.getElem?_eq_getElem hk] at h1
          exact Option.some.inj h1
        have hws : Wf ((four (crc (head (p.length : Int) ++ p))).set (k - (8 + p.length)) z) := by
          intro x hx
          rcases List.mem_or_eq_of_mem_set hx with h | h
          · exact four_wf _ x h
          · omega
        have h2 := four_unf (by rw [List.length_set, four_len]) hws
        rw [hc] at h2
        exact set_ne hkD (by rw [hg]; exact hne) h2.symm
  · rcases fDec_form b with h | h
    · exact absurd h h0
    · exact ⟨_, h, h0⟩
end Go.Proofs.Ytiabdeciadfiiaa.O
