/- The document's Reader: Num, Bytes. -/
import Derived.Test.YtlknlpiiogmfbaaRefR
namespace Go.Proofs.Ytlknlpiiogmfbaa.refr
open Go.RowKit H O

/-- What Num comes to from digit i on. -/
def cont (i u : Nat) (s : Option (List Int)) : Nat × Option (List Int) :=
  match s with
  | none => (0, none)
  | some l => match decF i u l with
    | none => (0, none)
    | some (v, r) => (v, some r)
theorem cont_zero (s : Option (List Int)) : stNum s = cont 0 0 s := rfl
theorem stRaw_cons (c : Int) (r : List Int) : stRaw 1 (some (c :: r)) = ([c], some r) := by
  simp only [stRaw]
  rw [if_neg (by simp only [List.length_cons]; omega)]
  rfl
theorem stRaw_empty : stRaw 1 (some []) = ([], none) := rfl
theorem cont_none {i u : Nat} {l : List Int} (h : decF i u l = none) : cont i u (some l) = (0, none) := by simp only [cont, h]
theorem cont_some {i u v : Nat} {l r : List Int} (h : decF i u l = some (v, r)) : cont i u (some l) = (v, some r) := by simp only [cont, h]
theorem cont_step {i u u' i' : Nat} {l r : List Int} (h : decF i u l = decF i' u' r) : cont i u (some l) = cont i' u' (some r) := by simp only [cont, h]

/-- What a round of Num knows. -/
def At1 (b : Nat) (g : Option Nat) (s : Option (List Int)) (w : World) (i u : Nat) (s' : Option (List Int)) (wr : World) : Prop :=
  stNum s = cont i u s' ∧ u < 128 ^ i ∧ (left s').length ≤ 70368744177664 ∧ ∃ g', Rdr wr b g' s' ∧ (g' = g ∨ g' = none) ∧ Kp [b] w wr

theorem fail_of {b : Nat} {g g1 g2 : Option Nat} {s : Option (List Int)} {w wr w1 : World} (h : stNum s = (0, none)) (HP : Rdr w1 b g2 none ∧ (g2 = g1 ∨ g2 = none) ∧ Kp [b] wr w1) (hg : g1 = g ∨ g1 = none) (hk : Kp [b] w wr) :
    RdrPost b g (.int .i64 ((stNum s).1 : Int)) (stNum s).2 w (.returned (.int .i64 0)) w1 := by
  rw [h]
  obtain ⟨h1, h2, h3⟩ := HP
  refine ⟨rfl, g2, h1, ?_, hk.trans h3 (fun x hx => .inl hx)⟩
  rcases h2 with rfl | rfl
  · exact hg
  · exact .inr rfl
theorem fail_bad {b : Nat} {g g1 g2 : Option Nat} {s s' : Option (List Int)} {w wr w1 w2 : World} (h : stNum s = (0, none)) (HP : Rdr w1 b g2 s' ∧ (g2 = g1 ∨ g2 = none) ∧ Kp [b] wr w1) (hg : g1 = g ∨ g1 = none) (hk : Kp [b] w wr)
    (hB : RdrPost b g2 (.tuple #[]) none w1 (.returned (.tuple #[])) w2) : RdrPost b g (.int .i64 ((stNum s).1 : Int)) (stNum s).2 w (.returned (.int .i64 0)) w2 := by
  obtain ⟨_, h2, h3⟩ := HP
  obtain ⟨_, g3, b1, b2, b3⟩ := hB
  refine fail_of h (g2 := g3) ⟨b1, ?_, h3.trans b3 (fun x hx => .inl hx)⟩ hg hk
  rcases b2 with rfl | rfl
  · exact h2
  · exact .inr rfl
theorem ok_of {b u : Nat} {g g1 g2 : Option Nat} {s : Option (List Int)} {r : List Int} {w wr w1 : World} (h : stNum s = (u, some r)) (HP : Rdr w1 b g2 (some r) ∧ (g2 = g1 ∨ g2 = none) ∧ Kp [b] wr w1) (hg : g1 = g ∨ g1 = none) (hk : Kp [b] w wr) :
    RdrPost b g (.int .i64 ((stNum s).1 : Int)) (stNum s).2 w (.returned (.int .i64 (u : Int))) w1 := by
  rw [h]
  obtain ⟨h1, h2, h3⟩ := HP
  refine ⟨rfl, g2, h1, ?_, hk.trans h3 (fun x hx => .inl hx)⟩
  rcases h2 with rfl | rfl
  · exact hg
  · exact .inr rfl
theorem next_of {b k u : Nat} {g g1 g2 : Option Nat} {s : Option (List Int)} {c : Int} {r : List Int} {w wr w1 : World} (h : stNum s = cont k u (some r)) (hu : u < 128 ^ k) (hl : (left (some (c :: r))).length ≤ 70368744177664)
    (HP : Rdr w1 b g2 (some r) ∧ (g2 = g1 ∨ g2 = none) ∧ Kp [b] wr w1) (hg : g1 = g ∨ g1 = none) (hk : Kp [b] w wr) : At1 b g s w k u (some r) w1 := by
  obtain ⟨h1, h2, h3⟩ := HP
  refine ⟨h, hu, by simp only [left, Option.getD_some, List.length_cons] at hl ⊢; omega, g2, h1, ?_, hk.trans h3 (fun x hx => .inl hx)⟩
  rcases h2 with rfl | rfl
  · exact hg
  · exact .inr rfl
theorem big_bits (u : Nat) (h : u < 9223372036854775808) : 4611686018427387904 < bits .or .u64 (u : Int) (IntKind.u64.wrap (IntKind.u64.wrap (bits .and .u8 1 127) * 9223372036854775808)) := by
  have e : IntKind.u64.wrap (IntKind.u64.wrap (bits .and .u8 1 127) * 9223372036854775808) = ((9223372036854775808 : Nat) : Int) := by decide +kernel
  rw [e, bits_or_u64_nat _ _ (by omega) (by omega)]
  have : 9223372036854775808 ≤ u ||| 9223372036854775808 := Nat.right_le_or
  omega

set_option maxHeartbeats 8000000 in
set_option maxRecDepth 100000 in
theorem num_any (b : Nat) (g : Option Nat) (s : Option (List Int)) (w : World) (hR : Rdr w b g s) (hb : (left s).length ≤ 70368744177664) :
    Calls Try.prog 71 #[.pointer (some ⟨b, 0, none⟩)] w (RdrPost b g (.int .i64 ((stNum s).1 : Int)) (stNum s).2 w) := by
  have H0 : As (At1 b g s w 0 0 s w) := ⟨cont_zero s, by decide, hb, g, hR, .inl rfl, Kp.refl _ _⟩
  clear hR hb
  go_enter Try.func71, Try.ntmps71
  go_wp2
  go_loopw [3, 4] (fun u i wr => ∃ k u0 : Nat, i = .int .i64 (k : Int) ∧ u = .int .u64 (u0 : Int) ∧ k ≤ 9 ∧ (∃ s', At1 b g s w k u0 s' wr)) (fun _ i _ => 10 - (intOf i).toNat)
  case atStart => exact ⟨0, 0, rfl, rfl, by omega, _, H0.out⟩
  case round =>
    obtain ⟨k, u0, rfl, rfl, hk, s', hN, hU, hL, g1, R1, G1, K1⟩ := hrel
    have HWF : As (Wf (left s')) := ⟨by obtain ⟨_, _, _, _, _, _, _, _, _, h⟩ := R1; exact h⟩
    have HN := As.mk hN
    have HU := As.mk hU
    have HL := As.mk hL
    have HG1 := As.mk G1
    have HK1 := As.mk K1
    have HRW := As.mk (raw_any b g1 s' 1 wr R1 hL)
    clear hN hU hL R1 G1 K1
    rcases s' with _ | ⟨_ | ⟨c, r⟩⟩
    · go_wp2_with (go_at_call 79; refine HRW.out.mono ?_; rintro e w1 ⟨v, rfl, O2, g2, R2, G2, K2⟩; obtain ⟨A2, c2, hb2, _⟩ := id R2; have c21 := blk_cell hb2 1 rfl; have HP := As.mk (And.intro R2 (And.intro G2 K2)); clear O2 R2 G2 K2 hb2)
      go_ret
      exact fail_of HN.out HP.out HG1.out HK1.out
    · go_wp2_with (go_at_call 79; refine HRW.out.mono ?_; rintro e w1 ⟨v, rfl, O2, g2, R2, G2, K2⟩; obtain ⟨A2, c2, hb2, _⟩ := id R2; have c21 := blk_cell hb2 1 rfl; have HP := As.mk (And.intro R2 (And.intro G2 K2)); clear O2 R2 G2 K2 hb2)
      go_ret
      exact fail_of HN.out HP.out HG1.out HK1.out
    · have hc := HWF.out c (by simp [left])
      by_cases h9 : k = 9
      · subst h9
        have HF : As (stNum s = (0, none)) := ⟨by rw [HN.out]; exact cont_none (by rw [decF, if_pos (.inl (Nat.le_refl 9))])⟩
        have hcase : 127 < c ∨ (¬ 127 < c ∧ 1 < c) ∨ c = 0 ∨ c = 1 := by omega
        rcases hcase with h1 | ⟨h1, h2⟩ | rfl | rfl
        · go_wp2_with (first
            | (go_at_call 79; refine HRW.out.mono ?_; rw [stRaw_cons]; rintro e w1 ⟨v, rfl, O2, g2, R2, G2, K2⟩; obtain ⟨A2, c2, hb2, _⟩ := id R2; have c21 := blk_cell hb2 1 rfl; obtain ⟨gx, capx, rfl, _, _⟩ := own_form O2.1 (by simp); have dx := one_cell O2; have HP := As.mk (And.intro R2 (And.intro G2 K2)); clear O2 R2 G2 K2 hb2)
            | (go_at_call 74; refine (bad_any b g2 (some r) _ HP.out.1).mono ?_; rintro e w2 HB; obtain rfl := HB.1; have HB2 := As.mk HB; clear HB))
          go_ret
          exact fail_bad HF.out HP.out HG1.out HK1.out HB2.out
        · go_wp2_with (first
            | (go_at_call 79; refine HRW.out.mono ?_; rw [stRaw_cons]; rintro e w1 ⟨v, rfl, O2, g2, R2, G2, K2⟩; obtain ⟨A2, c2, hb2, _⟩ := id R2; have c21 := blk_cell hb2 1 rfl; obtain ⟨gx, capx, rfl, _, _⟩ := own_form O2.1 (by simp); have dx := one_cell O2; have HP := As.mk (And.intro R2 (And.intro G2 K2)); clear O2 R2 G2 K2 hb2)
            | (go_at_call 74; refine (bad_any b g2 (some r) _ HP.out.1).mono ?_; rintro e w2 HB; obtain rfl := HB.1; have HB2 := As.mk HB; clear HB))
          go_ret
          exact fail_bad HF.out HP.out HG1.out HK1.out HB2.out
        · go_wp2_with (first
            | (go_at_call 79; refine HRW.out.mono ?_; rw [stRaw_cons]; rintro e w1 ⟨v, rfl, O2, g2, R2, G2, K2⟩; obtain ⟨A2, c2, hb2, _⟩ := id R2; have c21 := blk_cell hb2 1 rfl; obtain ⟨gx, capx, rfl, _, _⟩ := own_form O2.1 (by simp); have dx := one_cell O2; have HP := As.mk (And.intro R2 (And.intro G2 K2)); clear O2 R2 G2 K2 hb2)
            | (go_at_call 74; refine (bad_any b g2 (some r) _ HP.out.1).mono ?_; rintro e w2 HB; obtain rfl := HB.1; have HB2 := As.mk HB; clear HB))
          go_ret
          exact fail_bad HF.out HP.out HG1.out HK1.out HB2.out
        · have hbig := big_bits u0 (by have h7 := HU.out; have h8 : (128 : Nat) ^ 9 = 9223372036854775808 := by decide
                                       omega)
          go_wp2_with (first
            | (go_at_call 79; refine HRW.out.mono ?_; rw [stRaw_cons]; rintro e w1 ⟨v, rfl, O2, g2, R2, G2, K2⟩; obtain ⟨A2, c2, hb2, _⟩ := id R2; have c21 := blk_cell hb2 1 rfl; obtain ⟨gx, capx, rfl, _, _⟩ := own_form O2.1 (by simp); have dx := one_cell O2; have HP := As.mk (And.intro R2 (And.intro G2 K2)); clear O2 R2 G2 K2 hb2)
            | (go_at_call 74; refine (bad_any b g2 (some r) _ HP.out.1).mono ?_; rintro e w2 HB; obtain rfl := HB.1; have HB2 := As.mk HB; clear HB))
          go_ret
          exact fail_bad HF.out HP.out HG1.out HK1.out HB2.out
      · have hk8 : k ≤ 8 := by omega
        have hlen : ¬ 9 ≤ k := by omega
        obtain ⟨u1, hu1⟩ : ∃ u1 : Nat, u1 = u0 + c.toNat % 128 * 128 ^ k := ⟨_, rfl⟩
        have hbit := num_bits u0 k c hc.1 hc.2 hk8 HU.out
        rw [← hu1] at hbit
        have HU1 := As.mk hu1
        have HD : As (decF k u0 (c :: r) = if 9 ≤ k ∨ (0 < k ∧ c = 0) then none else if c < 128 then (if 4611686018427387904 < u0 + c.toNat * 128 ^ k then none else some (u0 + c.toNat * 128 ^ k, r)) else decF (k + 1) (u0 + (c.toNat - 128) * 128 ^ k) r) := ⟨by rw [decF]⟩
        clear hu1
        by_cases h127 : 127 < c
        · have HF : As (stNum s = cont (k + 1) u1 (some r)) := by
            constructor
            have e1 : c.toNat % 128 = c.toNat - 128 := by omega
            rw [HN.out]
            exact cont_step (by rw [HD.out, if_neg (by omega), if_neg (by omega), HU1.out, e1])
          have HB1 : As (u1 < 128 ^ (k + 1)) := by
            constructor
            rw [HU1.out, Nat.pow_succ]
            have h1 : c.toNat % 128 * 128 ^ k ≤ 127 * 128 ^ k := Nat.mul_le_mul_right _ (by omega)
            have h2 := HU.out
            omega
          go_wp2_with (first
            | (go_at_call 79; refine HRW.out.mono ?_; rw [stRaw_cons]; rintro e w1 ⟨v, rfl, O2, g2, R2, G2, K2⟩; obtain ⟨A2, c2, hb2, _⟩ := id R2; have c21 := blk_cell hb2 1 rfl; obtain ⟨gx, capx, rfl, _, _⟩ := own_form O2.1 (by simp); have dx := one_cell O2; have HP := As.mk (And.intro R2 (And.intro G2 K2)); clear O2 R2 G2 K2 hb2)
            | (go_at_call 74; refine (bad_any b g2 (some r) _ HP.out.1).mono ?_; rintro e w2 HB; obtain rfl := HB.1; have HB2 := As.mk HB; clear HB))
          go_roundw
          case rel => exact ⟨k + 1, u1, by go_num, rfl, by omega, _, next_of HF.out HB1.out HL.out HP.out HG1.out HK1.out⟩
          case measure => simp [intOf]; omega
        · have HE : As (u0 + c.toNat * 128 ^ k = u1) := by
            constructor
            have e1 : c.toNat % 128 = c.toNat := by omega
            rw [HU1.out, e1]
          by_cases h0 : 0 < k ∧ c = 0
          · obtain ⟨h0k, rfl⟩ := h0
            have HF : As (stNum s = (0, none)) := ⟨by rw [HN.out]; exact cont_none (by rw [HD.out, if_pos (.inr ⟨h0k, rfl⟩)])⟩
            go_wp2_with (first
            | (go_at_call 79; refine HRW.out.mono ?_; rw [stRaw_cons]; rintro e w1 ⟨v, rfl, O2, g2, R2, G2, K2⟩; obtain ⟨A2, c2, hb2, _⟩ := id R2; have c21 := blk_cell hb2 1 rfl; obtain ⟨gx, capx, rfl, _, _⟩ := own_form O2.1 (by simp); have dx := one_cell O2; have HP := As.mk (And.intro R2 (And.intro G2 K2)); clear O2 R2 G2 K2 hb2)
            | (go_at_call 74; refine (bad_any b g2 (some r) _ HP.out.1).mono ?_; rintro e w2 HB; obtain rfl := HB.1; have HB2 := As.mk HB; clear HB))
            go_ret
            exact fail_bad HF.out HP.out HG1.out HK1.out HB2.out
          · have hcase : ¬ 0 < k ∨ (0 < k ∧ (c == 0) = false) := by
              by_cases hk0 : 0 < k
              · exact .inr ⟨hk0, by rw [beq_eq_false_iff_ne]; omega⟩
              · exact .inl hk0
            have HN0 : As (¬ (9 ≤ k ∨ (0 < k ∧ c = 0))) := ⟨by omega⟩
            clear h0
            by_cases hbig : 4611686018427387904 < u1
            · have HF : As (stNum s = (0, none)) := ⟨by rw [HN.out]; exact cont_none (by rw [HD.out, if_neg HN0.out, if_pos (by omega), HE.out, if_pos hbig])⟩
              obtain g2' | ⟨g2', g3'⟩ := hcase
              all_goals
                go_wp2_with (first
            | (go_at_call 79; refine HRW.out.mono ?_; rw [stRaw_cons]; rintro e w1 ⟨v, rfl, O2, g2, R2, G2, K2⟩; obtain ⟨A2, c2, hb2, _⟩ := id R2; have c21 := blk_cell hb2 1 rfl; obtain ⟨gx, capx, rfl, _, _⟩ := own_form O2.1 (by simp); have dx := one_cell O2; have HP := As.mk (And.intro R2 (And.intro G2 K2)); clear O2 R2 G2 K2 hb2)
            | (go_at_call 74; refine (bad_any b g2 (some r) _ HP.out.1).mono ?_; rintro e w2 HB; obtain rfl := HB.1; have HB2 := As.mk HB; clear HB))
                go_ret
                exact fail_bad HF.out HP.out HG1.out HK1.out HB2.out
            · have HF : As (stNum s = (u1, some r)) := ⟨by rw [HN.out]; exact cont_some (by rw [HD.out, if_neg HN0.out, if_pos (by omega), HE.out, if_neg hbig])⟩
              obtain g2' | ⟨g2', g3'⟩ := hcase
              all_goals
                go_wp2_with (first
            | (go_at_call 79; refine HRW.out.mono ?_; rw [stRaw_cons]; rintro e w1 ⟨v, rfl, O2, g2, R2, G2, K2⟩; obtain ⟨A2, c2, hb2, _⟩ := id R2; have c21 := blk_cell hb2 1 rfl; obtain ⟨gx, capx, rfl, _, _⟩ := own_form O2.1 (by simp); have dx := one_cell O2; have HP := As.mk (And.intro R2 (And.intro G2 K2)); clear O2 R2 G2 K2 hb2)
            | (go_at_call 74; refine (bad_any b g2 (some r) _ HP.out.1).mono ?_; rintro e w2 HB; obtain rfl := HB.1; have HB2 := As.mk HB; clear HB))
                go_ret
                exact ok_of HF.out HP.out HG1.out HK1.out


theorem num_suffix_left {s : Option (List Int)} {m : Nat} (h : (left s).length ≤ m) : (left (stNum s).2).length ≤ m := left_le h
theorem raw_of_none (n : Int) : stRaw n none = ([], none) := rfl

/-- Bytes -/
theorem bytes_any (b : Nat) (g : Option Nat) (s : Option (List Int)) (w : World) (hR : Rdr w b g s) (hb : (left s).length ≤ 70368744177664) :
    Calls Try.prog 72 #[.pointer (some ⟨b, 0, none⟩)] w (RawPost b g (stBytes s) w) := by
  have HN := As.mk (num_any b g s w hR hb)
  have HL := As.mk (left_le hb)
  clear hR
  obtain ⟨⟨v, s2⟩, hv⟩ : ∃ p, p = stNum s := ⟨_, rfl⟩
  have HV := As.mk hv
  rw [← hv] at HN HL
  clear hv
  cases s2 with
  | none =>
    have HE : As (stBytes s = ([], none)) := ⟨by rw [stBytes, ← HV.out]; rfl⟩
    go_enter Try.func72, Try.ntmps72
    go_wp2_with (go_at_call 71; refine HN.out.mono ?_; rintro e w1 HP; obtain rfl := HP.1; obtain ⟨_, g1, R1, G1, K1⟩ := HP; obtain ⟨A2, c2, hb2, _⟩ := id R1; have c21 := blk_cell hb2 1 rfl; have HP1 := As.mk (And.intro R1 (And.intro G1 K1)); clear R1 G1 K1 hb2)
    go_ret
    rw [HE.out]
    exact ⟨_, rfl, Own.nil _ _ _ _, g1, HP1.out⟩
  | some r =>
    go_enter Try.func72, Try.ntmps72
    go_wp2_with (first
      | (go_at_call 71; refine HN.out.mono ?_; rintro e w1 HP; obtain rfl := HP.1; obtain ⟨_, g1, R1, G1, K1⟩ := HP; obtain ⟨A2, c2, hb2, _⟩ := id R1; have c21 := blk_cell hb2 1 rfl; have HG1 := As.mk G1; have HK1 := As.mk K1; have HRW := As.mk (raw_any b g1 (some r) (v : Int) w1 R1 HL.out); clear R1 G1 K1 hb2)
      | (go_at_call 79; refine HRW.out.mono ?_; rintro e w2 ⟨v2, rfl, O2, g2, R2, G2, K2⟩; have HP2 := As.mk (And.intro O2 (And.intro R2 (And.intro G2 K2))); clear O2 R2 G2 K2))
    go_ret
    obtain ⟨O2, R2, G2, K2⟩ := HP2.out
    have HE : stBytes s = stRaw (v : Int) (some r) := by rw [stBytes, ← HV.out]
    rw [HE]
    refine ⟨v2, rfl, O2.lower HK1.out.size, g2, R2, ?_, HK1.out.trans K2 (fun x hx => .inl hx)⟩
    rcases G2 with rfl | rfl
    · exact HG1.out
    · exact .inr rfl

end Go.Proofs.Ytlknlpiiogmfbaa.refr
