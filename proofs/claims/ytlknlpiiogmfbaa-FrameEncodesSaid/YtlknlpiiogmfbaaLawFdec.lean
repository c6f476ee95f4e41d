/- The walk of FrameDecodes: any bytes begin with a record, or are refused for the first reason; all records from the beginning on. -/
import Derived.Test.YtlknlpiiogmfbaaKnown8
import Derived.Test.YtlknlpiiogmfbaaRef8b
import Derived.Test.YtlknlpiiogmfbaaRowsEq8
import Derived.Test.YtlknlpiiogmfbaaOpen
namespace Go.Proofs.Ytlknlpiiogmfbaa.haystacklaw8
open Go.RowKit H O joins frame

theorem same_self {A B : Option Addr} {n c d : Nat} {X : List Int} {w : World} (hn : X.length = n) (h0 : Rd w A (iv .u8 X)) (h1 : Rd w B (iv .u8 X)) (hm : n ≤ 9223372036854775807) :
    Calls Try.prog 17 #[.slice A n c, .slice B n d] w fun e w' => e = .returned (.bool true) ∧ Kp [] w w' := by
  refine (same_any A B n c n d X X w hn hn h0 h1 (by omega)).mono ?_
  rintro e w' ⟨rfl, k, rfl⟩
  exact ⟨by simp, (Kp.refl _ _).drewN _⟩
theorem rows_self {A B : Option Addr} {n c d : Nat} {X : List (List Int)} {w : World} (hn : X.length = n) (h0 : Rs [] w A X) (h1 : Rs [] w B X) (hm : n ≤ 4611686018427387904) (hx : ∀ x ∈ X, x.length ≤ 4611686018427387904) :
    Calls Try.prog 20 #[.slice A n c, .slice B n d] w fun e w' => e = .returned (.bool true) ∧ Kp [] w w' := by
  have h := rows_any A B n c n d X X w hn hn h0 h1 hm hx
  rwa [decide_eq_true (rfl : X = X)] at h
theorem own_rds {w : World} {lo n c : Nat} {A : Option Addr} {X : List Int} (h : Own 5 .u8 w lo (.slice A n c) X) : Rd w A (iv .u8 X) := by
  obtain ⟨A', c', e, _, _, r, _⟩ := own_rd h.1
  cases e
  exact r
theorem fDec_len {b : List Int} : (fDec b).1.length ≤ b.length := by
  unfold fDec
  repeat' split
  all_goals first
    | exact Nat.zero_le _
    | (simp only [List.length_drop, List.length_take]; omega)
theorem fScan_len : ∀ (n : Nat) (b : List Int), b.length ≤ n → (fScan b).1.length ≤ b.length ∧ ∀ x ∈ (fScan b).1, x.length ≤ b.length := by
  intro n
  induction n with
  | zero =>
    intro b h
    have : b = [] := List.eq_nil_of_length_eq_zero (by omega)
    subst this
    rw [fScan_end (.inl rfl)]
    simp
  | succ n ih =>
    intro b h
    by_cases hb : b ≠ [] ∧ (fDec b).2.2 = 0
    · have hp := fDec_pos hb.2
      have i := ih (b.drop (fDec b).2.1) (by rw [List.length_drop]; omega)
      rw [fScan_step hb.1 hb.2]
      rw [List.length_drop] at i
      refine ⟨by rw [List.length_cons]; omega, fun x hx => ?_⟩
      rcases List.mem_cons.1 hx with rfl | hx
      · exact fDec_len
      · have := i.2 x hx
        omega
    · rw [fScan_end (by
        by_cases h0 : b = []
        · exact .inl h0
        · exact .inr (fun h1 => hb ⟨h0, h1⟩))]
      simp
theorem fOne_len {b : List Int} : (fOne b).1.length ≤ b.length := by
  unfold fOne
  split
  · exact Nat.zero_le _
  · exact fDec_len

set_option maxHeartbeats 8000000 in
set_option maxRecDepth 100000 in
theorem fdec_law (A : Option Addr) (n c : Nat) (xs : List Int) (hn : xs.length = n) (w : World) (hr : Rd w A (iv .u8 xs))
    (hc : n ≤ c) (hnA : A = none → c = 0) (hw : Wf xs) (hb : n ≤ 140737488351232) :
    Calls Try.prog 7 #[.slice A n c] w fun e w' => e = .returned (.bool true) ∧ Below w.heap.size w w' := by
  by_cases hbig : 4000 < n
  · clear hr hn hnA hw
    go_enter Try.func7, Try.ntmps7
    go_wp2
    go_ret
    exact ⟨rfl, (Kp.refl [] w).below⟩
  · obtain ⟨N1, hN1⟩ : ∃ N1, N1 = n + 1 := ⟨_, rfl⟩
    have HRM := As.mk (roomy_any A n c xs w hn hr hnA (by omega))
    obtain ⟨P, hP⟩ : ∃ P, (fDec xs).1 = P := ⟨_, rfl⟩
    obtain ⟨np, hnp⟩ : ∃ np, P.length = np := ⟨_, rfl⟩
    obtain ⟨k, hk⟩ : ∃ k, (fDec xs).2.1 = k := ⟨_, rfl⟩
    obtain ⟨e, he⟩ : ∃ e, (fDec xs).2.2 = e := ⟨_, rfl⟩
    obtain ⟨Q, hQ⟩ : ∃ Q, (fOne xs).1 = Q := ⟨_, rfl⟩
    obtain ⟨nq, hnq⟩ : ∃ nq, Q.length = nq := ⟨_, rfl⟩
    obtain ⟨g, hg⟩ : ∃ g, (fOne xs).2 = g := ⟨_, rfl⟩
    obtain ⟨L, hL⟩ : ∃ L, (fScan xs).1 = L := ⟨_, rfl⟩
    obtain ⟨nl, hnl⟩ : ∃ nl, L.length = nl := ⟨_, rfl⟩
    obtain ⟨t, ht⟩ : ∃ t, (fScan xs).2 = t := ⟨_, rfl⟩
    have hnp4 : np ≤ 4000 := by have := fDec_len (b := xs); rw [← hnp, ← hP]; omega
    have hnq4 : nq ≤ 4000 := by have := fOne_len (b := xs); rw [← hnq, ← hQ]; omega
    have hsl4 := fScan_len _ xs (Nat.le_refl _)
    rw [hL, hn] at hsl4
    have hnl4 : nl ≤ 4000 := by rw [← hnl]; omega
    have HLX : As (∀ x ∈ L, x.length ≤ 4611686018427387904) := ⟨fun x hx => by have := hsl4.2 x hx; omega⟩
    have HDX : As (∀ (B : Option Addr) (d : Nat) (wX : World), n ≤ d → Rd wX B (iv .u8 xs) → Calls Try.prog 14 #[.slice B n d] wX fun e' w' => ∃ A1 c1, e' = .returned (.tuple #[.slice A1 np c1, .int .i64 (k : Int), .int .i64 e]) ∧ Own 5 .u8 w' wX.heap.size (.slice A1 np c1) P ∧ Kp [] wX w') := ⟨fun B d wX hd rX => by
      refine (dec_any B n d xs wX hn rX hd hw (by omega)).mono ?_
      rintro e' w' ⟨v, rfl, o, kk⟩
      rw [hP] at o
      obtain ⟨A1, c1, rfl, _⟩ := own_rd o.1
      rw [hnp] at o ⊢
      exact ⟨A1, c1, by rw [hk, he], o, kk⟩⟩
    have HDR : As (∀ (wX : World), Kp [] w wX → Calls Try.prog 22 #[.slice A n c] wX fun e' w' => ∃ A1 c1, e' = .returned (.tuple #[.slice A1 np c1, .int .i64 (k : Int), .int .i64 e]) ∧ Rd w' A1 (iv .u8 P) ∧ Kp [] wX w') := ⟨fun wX kX => by
      refine (ref8.dec_any A n c xs wX hn (kX.rd_new hr (by simp)) hc hw (by omega)).mono ?_
      rintro e' w' ⟨v, rfl, o, kk⟩
      rw [hP] at o
      obtain ⟨A1, c1, rfl, _, _, r1, _⟩ := own_rd o.1
      rw [hnp]
      exact ⟨A1, c1, by rw [hk, he], r1, kk⟩⟩
    have HOX : As (∀ (B : Option Addr) (d : Nat) (wX : World), n ≤ d → Rd wX B (iv .u8 xs) → Calls Try.prog 18 #[.slice B n d] wX fun e' w' => ∃ A1 c1, e' = .returned (.tuple #[.slice A1 nq c1, .int .i64 g]) ∧ Rd w' A1 (iv .u8 Q) ∧ Kp [] wX w') := ⟨fun B d wX hd rX => by
      refine (one_any B n d xs wX hn rX hd hw (by omega)).mono ?_
      rintro e' w' ⟨v, rfl, o, kk⟩
      rw [hQ] at o
      obtain ⟨A1, c1, rfl, _, _, r1, _⟩ := own_rd o.1
      rw [hnq]
      exact ⟨A1, c1, by rw [hg], r1, kk⟩⟩
    have HOR : As (∀ (wX : World), Kp [] w wX → Calls Try.prog 23 #[.slice A n c] wX fun e' w' => ∃ A1 c1, e' = .returned (.tuple #[.slice A1 nq c1, .int .i64 g]) ∧ Rd w' A1 (iv .u8 Q) ∧ Kp [] wX w') := ⟨fun wX kX => by
      refine (ref8.one_any A n c xs wX hn (kX.rd_new hr (by simp)) hc hw (by omega)).mono ?_
      rintro e' w' ⟨v, rfl, o, kk⟩
      rw [hQ] at o
      obtain ⟨A1, c1, rfl, _, _, r1, _⟩ := own_rd o.1
      rw [hnq]
      exact ⟨A1, c1, by rw [hg], r1, kk⟩⟩
    have HSX : As (∀ (B : Option Addr) (d : Nat) (wX : World), n ≤ d → Rd wX B (iv .u8 xs) → Calls Try.prog 19 #[.slice B n d] wX fun e' w' => ∃ A1 c1, e' = .returned (.tuple #[.slice A1 nl c1, .int .i64 (t : Int)]) ∧ Rs [] w' A1 L ∧ Kp [] wX w') := ⟨fun B d wX hd rX => by
      refine (scan_any B n d xs wX hn rX hd hw (by omega)).mono ?_
      rintro e' w' ⟨A1, c1, rfl, r1, _, _, kk⟩
      rw [hL] at r1 ⊢
      exact ⟨A1, c1, by rw [hnl, ht], r1, kk⟩⟩
    have HSR : As (∀ (wX : World), Kp [] w wX → Calls Try.prog 24 #[.slice A n c] wX fun e' w' => ∃ A1 c1, e' = .returned (.tuple #[.slice A1 nl c1, .int .i64 (t : Int)]) ∧ Rs [] w' A1 L ∧ Kp [] wX w') := ⟨fun wX kX => by
      refine (ref8.scan_any A n c xs wX hn (kX.rd_new hr (by simp)) hc hw (by omega)).mono ?_
      rintro e' w' ⟨A1, c1, rfl, r1, _, _, kk⟩
      rw [hL] at r1 ⊢
      exact ⟨A1, c1, by rw [hnl, ht], r1, kk⟩⟩
    have HR := As.mk hr
    have HL := As.mk hn
    have HNP := As.mk hnp
    have HNQ := As.mk hnq
    have HNL := As.mk hnl
    have HN1 := As.mk hN1
    have hN0 : 0 < N1 := by omega
    have hN9 : N1 ≤ 4001 := by omega
    have hnN : (n : Int) ≤ (N1 : Int) := by omega
    clear hr hn hnA hw hP hnp hk he hQ hnq hg hL hnl ht hsl4 hN1
    go_enter Try.func7, Try.ntmps7
    go_wp2_with (first
      | (go_at_call 21; refine HRM.out.mono ?_; rintro e' w1 ⟨v1, rfl, o1, k1⟩; have o1' := o1.1; rw [List.length_append, HL.out, List.length_singleton, ← HN1.out] at o1'; obtain ⟨g1, c1, rfl, hc1, hc1'⟩ := own_form o1' hN0; have HO1 := As.mk o1'; have HK1 := As.mk k1; have hsl := slice_head ht8 hz8 (some ⟨g1, 0, none⟩) N1 c1 n (by omega) (by simp); have HR1 : As (Rd w1 (some ⟨g1, 0, none⟩) (iv .u8 (xs ++ [171]))) := ⟨by obtain ⟨A9, c9, h9, _, _, r9, _⟩ := own_rd o1'; cases h9; exact r9⟩; have HX1 : As (∀ wX, Kp [] w1 wX → Rd wX (some ⟨g1, 0, none⟩) (iv .u8 xs)) := ⟨fun wX kX => by have h9 := kX.rd HR1.out (fun _ _ => by simp); rw [iv_app] at h9; exact h9.app⟩; have hn1 : n ≤ c1 := (by omega); have HD1 := As.mk (HDX.out (some ⟨g1, 0, none⟩) c1 w1 hn1 (HX1.out w1 (Kp.refl _ _))); clear o1 o1' k1 HRM HDX)
      | (go_at_call 14; refine HD1.out.mono ?_; rintro e' w2 ⟨A2, c2, rfl, o2, k2⟩; have HO2 := As.mk o2; have HK2 := As.mk k2; have HD2 := As.mk (HDR.out w2 (HK1.out.trans k2 (by simp))); clear o2 k2 HD1 HDR)
      | (go_at_call 22; refine HD2.out.mono ?_; rintro e' w3 ⟨A3, c3, rfl, r3, k3⟩; have HR3 := As.mk r3; have HK3 := As.mk k3; have HK13 : As (Kp [] w1 w3) := ⟨HK2.out.trans k3 (by simp)⟩; have HN3 := As.mk (HOX.out (some ⟨g1, 0, none⟩) c1 w3 hn1 (HX1.out w3 HK13.out)); clear r3 k3 HD2 HOX)
      | (go_at_call 18; refine HN3.out.mono ?_; rintro e' w4 ⟨A4, c4, rfl, r4, k4⟩; have HR4 := As.mk r4; have HK4 := As.mk k4; have HN4 := As.mk (HOR.out w4 (HK1.out.trans (HK13.out.trans k4 (by simp)) (by simp))); clear r4 k4 HN3 HOR)
      | (go_at_call 23; refine HN4.out.mono ?_; rintro e' w5 ⟨A5, c5, rfl, r5, k5⟩; have HR5 := As.mk r5; have HK35 : As (Kp [] w3 w5) := ⟨HK4.out.trans k5 (by simp)⟩; have HK5 := As.mk k5; have HS5 := As.mk (HSX.out (some ⟨g1, 0, none⟩) c1 w5 hn1 (HX1.out w5 (HK13.out.trans HK35.out (by simp)))); clear r5 k5 HN4 HSX)
      | (go_at_call 19; refine HS5.out.mono ?_; rintro e' w6 ⟨A6, c6, rfl, r6, k6⟩; have HR6 := As.mk r6; have HK6 := As.mk k6; have HS6 := As.mk (HSR.out w6 (HK1.out.trans (HK13.out.trans (HK35.out.trans k6 (by simp)) (by simp)) (by simp))); clear r6 k6 HS5 HSR)
      | (go_at_call 24; refine HS6.out.mono ?_; rintro e' w7 ⟨A7, c7, rfl, r7, k7⟩; have HR7 := As.mk r7; have HK67 := As.mk k7; have HK57 : As (Kp [] w5 w7) := ⟨HK6.out.trans k7 (by simp)⟩; have HK37 : As (Kp [] w3 w7) := ⟨HK35.out.trans HK57.out (by simp)⟩; have HQ7 := As.mk (same_self (A := A2) (B := A3) (c := c2) (d := c3) HNP.out ((HK3.out.trans HK37.out (by simp)).rd (own_rds HO2.out) (fun _ _ => by simp)) (HK37.out.rd HR3.out (fun _ _ => by simp)) (by omega)); clear r7 k7 HS6)
      | (go_at_call 17; refine HQ9.out.mono ?_; rintro e' w10 ⟨rfl, k10⟩; have HK7A : As (Kp [] w7 w10) := ⟨HK79.out.trans k10 (by simp)⟩; have HO10 := As.mk (HO2.out.kp (HK3.out.trans (HK37.out.trans HK7A.out (by simp)) (by simp)) (by simp)); have HSP := As.mk (spoil_any (.slice A2 np c2) np (iv .u8 P) w10 (by have h9 := HO10.out.1; rwa [HNP.out] at h9) (by omega)); clear k10 HQ9)
      | (go_at_call 17; refine HQ7.out.mono ?_; rintro e' w8 ⟨rfl, k8⟩; have HK78 := As.mk k8; have HW8 := As.mk (rows_self (A := A6) (B := A7) (c := c6) (d := c7) HNL.out (HR6.out.kp (HK67.out.trans k8 (by simp)) (by simp)) (HR7.out.kp k8 (by simp)) (by omega) HLX.out); clear k8 HQ7)
      | (go_at_call 20; refine HW8.out.mono ?_; rintro e' w9 ⟨rfl, k9⟩; have HK79 : As (Kp [] w7 w9) := ⟨HK78.out.trans k9 (by simp)⟩; have HQ9 := As.mk (same_self (A := A4) (B := A5) (c := c4) (d := c5) HNQ.out ((HK5.out.trans (HK57.out.trans HK79.out (by simp)) (by simp)).rd HR4.out (fun _ _ => by simp)) ((HK57.out.trans HK79.out (by simp)).rd HR5.out (fun _ _ => by simp)) (by omega)); clear k9 HW8)
      | (go_at_call 25; refine HSP.out.mono ?_; rintro e' w11 ⟨rfl, k11⟩; have HK1B : As (Kp [] w1 w11) := ⟨(HK13.out.trans (HK37.out.trans HK7A.out (by simp)) (by simp)).row k11 (fun x hx => .inr (HO10.out.2 x hx))⟩; have HST := As.mk (stands_any (some ⟨g1, 0, none⟩) A N1 c1 n c (xs ++ [171]) xs w11 (by rw [List.length_append, HL.out, HN1.out]; rfl) HL.out (HK1B.out.rd HR1.out (fun _ _ => by simp)) ((HK1.out.trans HK1B.out (by simp)).rd_new HR.out (by simp)) hc1 (by rw [List.length_append, HL.out]; simp; omega) (by rw [HL.out]; omega)); rw [decide_eq_true (rfl : xs ++ [171] = xs ++ [171])] at HST; clear k11 HSP)
      | (go_at_call 26; refine HST.out.mono ?_; rintro e' w12 ⟨rfl, nk12, hw12⟩; have HK1C : As (Kp [] w1 w12) := ⟨by rw [hw12]; exact HK1B.out.drewN _⟩; clear hw12 HST)
      | (go_at_call 15; refine (known_any _).mono ?_; rintro e' w13 ⟨rfl, k13⟩; have HKE : As (Kp [] w w13) := ⟨HK1.out.trans (HK1C.out.trans k13 (by simp)) (by simp)⟩; clear k13))
    go_ret
    exact ⟨rfl, HKE.out.below⟩

theorem fdec_row (w : World) (A : Option Addr) (n c : Nat) (p : List Int) (hn : p.length = n) (hr : Rd w A (iv .u8 p)) (hc : n ≤ c) (_ : c ≤ 9223372036854775807) (hnA : A = none → c = 0) (hw : ∀ y ∈ p, (Lit.int .u8 y).wf = true) (hz : n * 1 ≤ 140737488351232) :
    Calls Try.prog 7 #[.slice A n c] w fun e w' => e = .returned (.bool true) ∧ Below w.heap.size w w' :=
  fdec_law A n c p hn w hr hc hnA (fun x hx => wf_u8 (hw x hx)) (by omega)

end Go.Proofs.Ytlknlpiiogmfbaa.haystacklaw8
