/- haystackref13.Encode. -/
import Derived.Test.YtlknlpiiogmfbaaOpD
import Derived.Test.YtlknlpiiogmfbaaAcc
import Derived.Test.YtlknlpiiogmfbaaRef2
namespace Go.Proofs.Ytlknlpiiogmfbaa.ref13
open Go.RowKit H O opk haystacklaw13

theorem key_any (s : ByteArray) (w : World) : Calls Try.prog 73 #[.string s] w fun e w' => e = .returned (.bool (decide (1 ≤ s.size ∧ s.size ≤ 64))) ∧ w' = w := by
  obtain ⟨n, hn⟩ : ∃ n, s.size = n := ⟨_, rfl⟩
  by_cases h1 : 1 ≤ n
  · have h1' : (1 : Int) ≤ (n : Int) := by omega
    by_cases h2 : n ≤ 64
    · have h2' : (n : Int) ≤ 64 := by omega
      go_enter Try.func73, Try.ntmps73
      go_wp2
      go_ret
      exact ⟨by rw [decide_eq_true (by omega)]; rfl, rfl⟩
    · have h2' : ¬ (n : Int) ≤ 64 := by omega
      go_enter Try.func73, Try.ntmps73
      go_wp2
      go_ret
      exact ⟨rfl, rfl⟩
  · have h1' : ¬ (1 : Int) ≤ (n : Int) := by omega
    go_enter Try.func73, Try.ntmps73
    go_wp2
    go_ret
    exact ⟨rfl, rfl⟩

theorem acc_off {w w' : World} {o : Obj} {v : Value} {T : Nat} {X : List Int} (h : Acc (w.alloc o) w' v T X) : v.ownBlock ≠ some w.heap.size := by
  intro hb
  have := h.lo _ hb
  rw [World.size_alloc] at this
  omega
theorem enc_fin {k cl sq : Int} {key : ByteArray} {text : List Int} {w w0 w' : World} {v : Value} {T : Nat} (he : opErr k cl sq key.size text.length = 0) (h : Acc w0 w' v T (opBytes k cl sq key text)) (k0 : Kp [] w w0) :
    EncPost k cl sq key text w (.returned (.tuple #[v, .int .i64 0])) w' := by
  refine ⟨v, by rw [he], ?_, k0.trans h.kp (by simp)⟩
  rw [he, if_pos rfl]
  exact ⟨by rw [h.len]; exact h.own, fun g hg => Nat.le_trans k0.size (h.lo g hg)⟩
theorem within1_iff {x : Int} : within1 x = true ↔ ¬ x < 0 ∧ ¬ 1099511627776 < x := by
  unfold within1
  simp only [Bool.and_eq_true, decide_eq_true_eq]
  omega

set_option maxHeartbeats 8000000 in
set_option maxRecDepth 100000 in
-- PART N
theorem encode_no (k cl sq : Int) (key : ByteArray) (m : Nat) (hkm : key.size = m) (A : Option Addr) (n c : Nat) (text : List Int) (w : World) (hn : text.length = n) (hm : n ≤ 4611686018427387904) (he : opErr k cl sq m n ≠ 0) :
    Calls Try.prog 41 #[.agg #[.int .i64 k, .int .i64 cl, .int .i64 sq, .string key, .slice A n c]] w (EncPost k cl sq key text w) := by
  have HIX : As (∀ b, decide (1 ≤ m ∧ m ≤ 64) = b → ∀ w, Calls Try.prog 73 #[.string key] w fun e w' => e = .returned (.bool b) ∧ w' = w) := ⟨fun b hb w => by
    have h := key_any key w
    rwa [hkm, hb] at h⟩
  have HK1 := As.mk ((Kp.refl [] w).alloc (.cells #[.int .i64 k, .int .i64 cl, .int .i64 sq, .string key, .slice A n c] 47))
  by_cases h1 : k = 1 ∨ k = 2
  · by_cases h5 : opErr k cl sq m n = 5
    · have HE : As (5 = opErr k cl sq key.size text.length) := ⟨by rw [hkm, hn]; exact h5.symm⟩
      have h6 : k = 1 ∧ (¬ cl < 0 ∧ ¬ 1099511627776 < cl) ∧ (¬ sq < 0 ∧ ¬ 1099511627776 < sq) ∧ (1 ≤ m ∧ m ≤ 64) ∧ 4096 < n := by
        unfold opErr at h5
        split at h5
        · omega
        · rename_i h9
          split at h5
          · simp only [not_or, Bool.not_eq_false, Bool.and_eq_true, within1_iff, Classical.not_not] at h9
            obtain ⟨h91, ⟨h92, h93⟩, h94, h95⟩ := h9
            refine ⟨by omega, h92, h93, h94, by assumption⟩
          · omega
      obtain ⟨rfl, ⟨a1, a2⟩, ⟨a3, a4⟩, a5, a6⟩ := h6
      have HI := As.mk (HIX.out true (decide_eq_true a5))
      clear he h5 HIX hn hkm h1 a5
      go_enter Try.func41, Try.ntmps41
      go_wp2_with (go_at_call 73; refine (HI.out _).mono ?_; rintro e w2 ⟨rfl, rfl⟩)
      go_ret2
      exact enc_none HE.out (by decide) HK1.out
    · have h11 : opErr k cl sq m n = 1 := by
        unfold opErr at he h5 ⊢
        split
        · rfl
        · rename_i h9
          rw [if_neg h9] at he h5
          split at he
          · rename_i h10
            rw [if_pos h10] at h5
            exact absurd rfl h5
          · exact absurd rfl he
      have HE : As (1 = opErr k cl sq key.size text.length) := ⟨by rw [hkm, hn]; exact h11.symm⟩
      have D : cl < 0 ∨ (¬ cl < 0 ∧ 1099511627776 < cl) ∨ ((¬ cl < 0 ∧ ¬ 1099511627776 < cl) ∧ sq < 0) ∨ ((¬ cl < 0 ∧ ¬ 1099511627776 < cl) ∧ (¬ sq < 0 ∧ 1099511627776 < sq)) ∨
          ((¬ cl < 0 ∧ ¬ 1099511627776 < cl) ∧ (¬ sq < 0 ∧ ¬ 1099511627776 < sq) ∧ decide (1 ≤ m ∧ m ≤ 64) = false) ∨ ((¬ cl < 0 ∧ ¬ 1099511627776 < cl) ∧ (¬ sq < 0 ∧ ¬ 1099511627776 < sq) ∧ decide (1 ≤ m ∧ m ≤ 64) = true ∧ k = 2 ∧ 0 < n) := by
        unfold opErr at h11
        split at h11
        · rename_i h9
          by_cases b1 : cl < 0
          · exact .inl b1
          · by_cases b2 : 1099511627776 < cl
            · exact .inr (.inl ⟨b1, b2⟩)
            · by_cases b3 : sq < 0
              · exact .inr (.inr (.inl ⟨⟨b1, b2⟩, b3⟩))
              · by_cases b4 : 1099511627776 < sq
                · exact .inr (.inr (.inr (.inl ⟨⟨b1, b2⟩, b3, b4⟩)))
                · have hw : (within1 cl && within1 sq) = true := by rw [Bool.and_eq_true, within1_iff, within1_iff]; exact ⟨⟨b1, b2⟩, b3, b4⟩
                  by_cases b5 : 1 ≤ m ∧ m ≤ 64
                  · refine .inr (.inr (.inr (.inr (.inr ⟨⟨b1, b2⟩, ⟨b3, b4⟩, decide_eq_true b5, ?_⟩))))
                    rw [hw] at h9
                    simp only [Bool.true_eq_false, false_or] at h9
                    omega
                  · exact .inr (.inr (.inr (.inr (.inl ⟨⟨b1, b2⟩, ⟨b3, b4⟩, decide_eq_false b5⟩))))
        · split at h11 <;> omega
      clear he h5 h11 hn hkm
      rcases D with a1 | ⟨a1, a2⟩ | ⟨⟨a1, a2⟩, a3⟩ | ⟨⟨a1, a2⟩, a3, a4⟩ | ⟨⟨a1, a2⟩, ⟨a3, a4⟩, a5⟩ | ⟨⟨a1, a2⟩, ⟨a3, a4⟩, a5, a6, a7⟩
      case inr.inr.inr.inr.inr =>
        have HI := As.mk (HIX.out true a5)
        clear HIX a5 h1
        subst a6
        go_enter Try.func41, Try.ntmps41
        go_wp2_with (go_at_call 73; refine (HI.out _).mono ?_; rintro e w2 ⟨rfl, rfl⟩)
        go_ret2
        exact enc_none HE.out (by decide) HK1.out
      case inr.inr.inr.inr.inl =>
        have HI := As.mk (HIX.out false a5)
        clear HIX a5
        rcases h1 with rfl | rfl
        all_goals
          go_enter Try.func41, Try.ntmps41
          go_wp2_with (go_at_call 73; refine (HI.out _).mono ?_; rintro e w2 ⟨rfl, rfl⟩)
          go_ret2
          exact enc_none HE.out (by decide) HK1.out
      all_goals
        clear HIX
        rcases h1 with rfl | rfl
        all_goals
          go_enter Try.func41, Try.ntmps41
          go_wp2
          go_ret2
          exact enc_none HE.out (by decide) HK1.out
  · have HE : As (1 = opErr k cl sq key.size text.length) := ⟨by rw [opErr, if_pos (.inl (by omega))]⟩
    have hk1 : (k != 1) = true := by simp; omega
    have hk2 : (k != 2) = true := by simp; omega
    clear h1 he HIX hn hkm
    go_enter Try.func41, Try.ntmps41
    go_wp2
    go_ret2
    exact enc_none HE.out (by decide) HK1.out
-- END N

set_option maxHeartbeats 8000000 in
set_option maxRecDepth 100000 in
-- PART O
theorem encode_ok (k cl sq : Int) (key : ByteArray) (m : Nat) (hkm : key.size = m) (A : Option Addr) (n c : Nat) (text : List Int) (w : World) (hn : text.length = n) (hr : Rd w A (iv .u8 text)) (hnil : A = none → c = 0)
    (hk : k = 1 ∨ (k = 2 ∧ ¬ 0 < n)) (hb2 : (within1 cl && within1 sq) = true) (hb3 : 1 ≤ m ∧ m ≤ 64) (hb5 : n ≤ 4096) (he : opErr k cl sq m n = 0) :
    Calls Try.prog 41 #[.agg #[.int .i64 k, .int .i64 cl, .int .i64 sq, .string key, .slice A n c]] w (EncPost k cl sq key text w) := by
  rw [Bool.and_eq_true, within1_iff, within1_iff] at hb2
  obtain ⟨⟨a1, a2⟩, a3, a4⟩ := hb2
  have HI : As (∀ w, Calls Try.prog 73 #[.string key] w fun e w' => e = .returned (.bool true) ∧ w' = w) := ⟨fun w => by
    have h := key_any key w
    rwa [hkm, decide_eq_true hb3] at h⟩
  obtain ⟨X1, hX1⟩ : ∃ X, X = nums [k, cl, sq] := ⟨_, rfl⟩
  obtain ⟨T1, hT1⟩ : ∃ T, X1.length = T := ⟨_, rfl⟩
  obtain ⟨Y1, hY1⟩ : ∃ Y, Y = row (kb key) := ⟨_, rfl⟩
  obtain ⟨R1, hR1⟩ : ∃ R, Y1.length = R := ⟨_, rfl⟩
  obtain ⟨T2, hT2⟩ : ∃ T, T = T1 + R1 := ⟨_, rfl⟩
  obtain ⟨Y2, hY2⟩ : ∃ Y, Y = row text := ⟨_, rfl⟩
  obtain ⟨R2, hR2⟩ : ∃ R, Y2.length = R := ⟨_, rfl⟩
  obtain ⟨T3, hT3⟩ : ∃ T, T = T2 + R2 := ⟨_, rfl⟩
  have hl1 : T1 ≤ 1000000 := by rw [← hT1, hX1]; exact nums3_len _ _ _
  have hl2 : R1 ≤ 1000 := by have := row_len (kb key); rw [← hR1, hY1]; rw [kb_len] at this; omega
  have hl3 : R2 ≤ 5000 := by have := row_len text; rw [← hR2, hY2]; omega
  have HFIN : As (X1 ++ Y1 ++ Y2 = opBytes k cl sq key text) := ⟨by rw [hX1, hY1, hY2, opBytes_eq]; simp [nums_cons, nums_nil]⟩
  have HNU : As (∀ wX, Kp [] (w.alloc (.cells #[.int .i64 k, .int .i64 cl, .int .i64 sq, .string key, .slice A n c] 47)) wX → Calls Try.prog 61 #[.slice (some ⟨wX.heap.size, 0, none⟩) 3 3] (wX.alloc (.cells #[.int .i64 k, .int .i64 cl, .int .i64 sq] 3)) fun e w' => ∃ A3 c3, e = .returned (.slice A3 T1 c3) ∧ Acc (w.alloc (.cells #[.int .i64 k, .int .i64 cl, .int .i64 sq, .string key, .slice A n c] 47)) w' (.slice A3 T1 c3) T1 X1 ∧ Kp [] wX w') := ⟨fun wX kX => by
    refine (ref.nums_any (some ⟨wX.heap.size, 0, none⟩) 3 3 [k, cl, sq] _ rfl (rd_new wX (iv .i64 [k, cl, sq]) 3) (by decide)).mono ?_
    rintro e w' ⟨v, rfl, o, kk⟩
    rw [← hX1] at o
    have o1 := o.1
    rw [hT1] at o1
    obtain ⟨A3, c3, rfl, _⟩ := own_rd o1
    have hkk : Kp [] wX w' := ((Kp.refl [] wX).alloc _).trans kk (by simp)
    exact ⟨A3, c3, rfl, ⟨o1, fun g hg => by have h1 := o.2 g hg; have h2 := kX.size; rw [World.size_alloc] at h1 h2 ⊢; omega, kX.trans hkk (by simp)⟩, hkk⟩⟩
  have HB1 : As (∀ (w3 : World), Calls Try.prog 69 #[.slice (some ⟨w3.heap.size, 0, none⟩) m (grownCap w3 m 0 5)] (Lib.bytesWorld w3 5 key) fun e w' => ∃ A5 c5, e = .returned (.slice A5 R1 c5) ∧ Rd w' A5 (iv .u8 Y1) ∧ (A5 = none → c5 = 0) ∧ Kp [] w3 w') := ⟨fun w3 => by
    refine (ref.bytes_any (some ⟨w3.heap.size, 0, none⟩) m (grownCap w3 m 0 5) (kb key) _ (by rw [kb_len, hkm]) (rd_bytes w3 5 key) (by simp) (by omega)).mono ?_
    rintro e w' ⟨v, rfl, o, kk⟩
    rw [← hY1] at o
    obtain ⟨A5, c5, rfl, _, _, r5, n5⟩ := own_rd o.1
    rw [hR1]
    exact ⟨A5, c5, rfl, r5, n5, (kp_bytes (Kp.refl [] w3) 5 key).trans kk (by simp)⟩⟩
  have HB2 : As (∀ (wX : World), Kp [] w wX → Calls Try.prog 69 #[.slice A n c] wX fun e w' => ∃ A5 c5, e = .returned (.slice A5 R2 c5) ∧ Rd w' A5 (iv .u8 Y2) ∧ (A5 = none → c5 = 0) ∧ Kp [] wX w') := ⟨fun wX kX => by
    refine (ref.bytes_any A n c text wX hn (kX.rd_new hr (by simp)) hnil (by omega)).mono ?_
    rintro e w' ⟨v, rfl, o, kk⟩
    rw [← hY2] at o
    obtain ⟨A5, c5, rfl, _, _, r5, n5⟩ := own_rd o.1
    rw [hR2]
    exact ⟨A5, c5, rfl, r5, n5, kk⟩⟩
  have HCV : As (∀ w, (convert 9 22 (.string key)).run Try.prog w = .ok (.slice (some ⟨w.heap.size, 0, none⟩) m (grownCap w m 0 5)) (Lib.bytesWorld w 5 key)) := ⟨fun w => by
    rw [← hkm]
    exact Lib.run_convert_string_bytes w 9 22 5 key Try.underlying9 Try.underlying22 Try.underlying5⟩
  have HE : As (opErr k cl sq key.size text.length = 0) := ⟨by rw [hkm, hn]; exact he⟩
  have HR1 := As.mk hR1
  have HR2 := As.mk hR2
  have HT2 := As.mk hT2
  have HT3 := As.mk hT3
  have HBX := As.mk (OpAt.new w k cl sq key A n c)
  have HK0 := As.mk ((Kp.refl [] w).alloc (.cells #[.int .i64 k, .int .i64 cl, .int .i64 sq, .string key, .slice A n c] 47))
  have hnu := HNU.out _ (Kp.refl [] _)
  rw [World.size_alloc] at hnu
  have HNU1 := As.mk hnu
  have hT29 : T2 ≤ 1001000 := by omega
  clear hr hn hnil he hkm hb3 hX1 hT1 hY1 hR1 hT2 hY2 hR2 hT3 HNU hnu
  rcases hk with rfl | ⟨rfl, hn0⟩
  all_goals
    go_enter Try.func41, Try.ntmps41
    go_wp2_with (first
      | (go_at_call 73; refine (HI.out _).mono ?_; rintro e w2 ⟨rfl, rfl⟩)
      | (go_at_call 61; refine HNU1.out.mono ?_; rintro e w3 ⟨A3, c3, rfl, a3, k3⟩; have HA3 := As.mk a3; have HO3 := As.mk (HBX.out.kp k3 (by simp)); obtain ⟨d0, d1, d2, d3, d4⟩ := HO3.out.cells; have hcv3 := HCV.out w3; have HB11 := As.mk (HB1.out w3); clear a3 k3 HNU1 HB1)
      | (go_at_call 69; refine HB22.out.mono ?_; rintro e w7 ⟨A7, c7, rfl, r7, n7, k7⟩; have HR7 := As.mk r7; have HN7 := As.mk n7; have HA7 := As.mk (HA6.out.keep k7); clear r7 n7 k7 HB22 HA6)
      | (go_at_call 69; refine HB11.out.mono ?_; rintro e w5 ⟨A5, c5, rfl, r5, n5, k5⟩; have HR5 := As.mk r5; have HN5 := As.mk n5; have HA5 := As.mk (HA3.out.keep k5); have HO5 := As.mk (HO3.out.kp k5 (by simp)); clear r5 n5 k5 HB11 d0 d1 d2 d3 d4 HA3 HO3)
      | (at_builtin; refine clone.app8 rfl (.tmp 68) (.tmp 71) rfl (.slice A6 T2 c6) T2 (iv .u8 (X1 ++ Y1)) rfl HA7.out.own A7 R2 c7 (iv .u8 Y2) rfl (by rw [iv_len, HR2.out]) HR7.out HN7.out (iv_one _ _) (by omega) ?_; intro v8 w8 o8 k8 a8; have h8 := HA7.out.more o8 k8 a8 HT3.out; rw [HFIN.out] at h8; obtain ⟨A8, c8, rfl, _, _, _, _⟩ := own_rd h8.own; have HA8 := As.mk h8; clear o8 k8 a8 h8)
      | (at_builtin; refine clone.app8 rfl (.tmp 62) (.tmp 66) rfl (.slice A3 T1 c3) T1 (iv .u8 X1) rfl HA5.out.own A5 R1 c5 (iv .u8 Y1) rfl (by rw [iv_len, HR1.out]) HR5.out HN5.out (iv_one _ _) (by omega) ?_; intro v6 w6 o6 k6 a6; have h6 := HA5.out.more o6 k6 a6 HT2.out; obtain ⟨A6, c6, rfl, _, _, _, _⟩ := own_rd h6.own; have HA6 := As.mk h6; have ho6 := HO5.out.kp k6 (fun hm => acc_off HA5.out (by simpa using hm)); obtain ⟨-, -, -, -, d4⟩ := ho6.cells; have HB22 := As.mk (HB2.out w6 (HK0.out.trans h6.kp (by simp))); clear o6 k6 a6 h6 ho6 HB2 HA5))
    go_ret2
    exact enc_fin HE.out HA8.out HK0.out
-- END O

/-- the document's Encode -/
theorem encode_any (k cl sq : Int) (key : ByteArray) (A : Option Addr) (n c : Nat) (text : List Int) (w : World) (hn : text.length = n) (hr : Rd w A (iv .u8 text)) (hnil : A = none → c = 0) (hm : n ≤ 4611686018427387904) :
    Calls Try.prog 41 #[.agg #[.int .i64 k, .int .i64 cl, .int .i64 sq, .string key, .slice A n c]] w (EncPost k cl sq key text w) := by
  by_cases h : opErr k cl sq key.size n = 0
  · obtain ⟨h1, h2, h3, h4⟩ := opErr_ne.1 h
    exact encode_ok k cl sq key _ rfl A n c text w hn hr hnil h1 h2 h3 h4 h
  · exact encode_no k cl sq key _ rfl A n c text w hn hm h
end Go.Proofs.Ytlknlpiiogmfbaa.ref13
