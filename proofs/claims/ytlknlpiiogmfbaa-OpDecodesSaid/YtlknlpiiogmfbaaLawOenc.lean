/- The walk of OpEncodes: any op as bytes, or refused; and back. -/
import Derived.Test.YtlknlpiiogmfbaaOpE
import Derived.Test.YtlknlpiiogmfbaaOpF
import Derived.Test.YtlknlpiiogmfbaaOpC
import Derived.Test.YtlknlpiiogmfbaaOpen
import Derived.Test.YtlknlpiiogmfbaaSlices
import Derived.Deep.RegionHeld3
namespace Go.Proofs.Ytlknlpiiogmfbaa.haystacklaw13
open Go.RowKit H O opk

theorem str_kb (s : ByteArray) : strOfNums (kb s) = s := kb_inj (kb_str (kb_wf s))
theorem dOpR_ob {k cl sq : Int} {key : ByteArray} {text : List Int} (he : opErr k cl sq key.size text.length = 0) : dOpR (opBytes k cl sq key text) = (k, cl, sq, key, text, 0) := by
  obtain ⟨⟨a1, a2⟩, ⟨b1, b2⟩, ⟨c1, c2⟩, d1, d2⟩ := ob_lim he
  have e := opBytes_eq k cl sq key text
  have q0 : stNum (some (opBytes k cl sq key text)) = (O.cl k, some (num cl ++ (num sq ++ (row (kb key) ++ (row text ++ []))))) := by rw [e]; exact stNum_num _ _
  have q1 := stNum_num cl (num sq ++ (row (kb key) ++ (row text ++ [])))
  have q2 := stNum_num sq (row (kb key) ++ (row text ++ []))
  have q3 := stBytes_row (kb key) (row text ++ []) (by rw [kb_len]; omega)
  have q4 := stBytes_row text [] (by omega)
  rw [dOpR_eq q0 q1 q2 q3 q4, cl_of a1 a2, cl_of b1 b2, cl_of c1 c2, kb_len, str_kb, if_pos ⟨rfl, he, rfl⟩]

theorem same_self {A B : Option Addr} {n c d : Nat} {X : List Int} {w : World} (hn : X.length = n) (h0 : Rd w A (iv .u8 X)) (h1 : Rd w B (iv .u8 X)) (hm : n ≤ 9223372036854775807) :
    Calls Try.prog 29 #[.slice A n c, .slice B n d] w fun e w' => e = .returned (.bool true) ∧ Kp [] w w' := by
  refine (same_any A B n c n d X X w hn hn h0 h1 (by omega)).mono ?_
  rintro e w' ⟨rfl, k, rfl⟩
  exact ⟨by simp, (Kp.refl _ _).drewN _⟩
/-- What either Encode hands back. -/
theorem enc_rd {k cl sq : Int} {key : ByteArray} {text X : List Int} {z : Int} {N : Nat} {w w' : World} {e : Ending} (h : EncPost k cl sq key text w e w') (hz : z = opErr k cl sq key.size text.length) (hX : X = if z = 0 then opBytes k cl sq key text else []) (hN : X.length = N) :
    ∃ A1 c1, e = .returned (.tuple #[.slice A1 N c1, .int .i64 z]) ∧ Rd w' A1 (iv .u8 X) ∧ Kp [] w w' ∧ N ≤ c1 ∧ (A1 = none → c1 = 0) := by
  obtain ⟨v, rfl, o, kk⟩ := h
  rw [← hz, ← hX] at o
  obtain ⟨A1, c1, rfl, h1, _, h3, h4⟩ := own_rd o.1
  rw [hN] at h1 ⊢
  rw [← hz]
  exact ⟨A1, c1, rfl, h3, kk, h1, h4⟩

set_option maxHeartbeats 8000000 in
set_option maxRecDepth 100000 in
theorem oenc_any (w : World) (k cl sq : Int) (key : ByteArray) (A : Option Addr) (n c : Nat) (text : List Int) (hn : text.length = n) (hr : Rd w A (iv .u8 text)) (hnil : A = none → c = 0) (hwt : Wf text) (hb : n ≤ 140737488351232) (hk : key.size ≤ 140737488351232) :
    Calls Try.prog 11 #[.agg #[.int .i64 k, .int .i64 cl, .int .i64 sq, .string key, .slice A n c]] w fun e w' => e = .returned (.bool true) ∧ Below w.heap.size w w' := by
  obtain ⟨l1, hl1⟩ : ∃ l, key.size = l := ⟨_, rfl⟩
  have hk' : l1 ≤ 140737488351232 := by omega
  clear hk
  by_cases hbig : (l1 : Int) + n > 6000
  · clear hr hnil hn hwt
    go_enter Try.func11, Try.ntmps11
    go_wp2
    go_ret
    exact ⟨rfl, ((Kp.refl [] w).alloc _).below⟩
  · have hn6 : n ≤ 6000 := by omega
    obtain ⟨z, hz⟩ : ∃ z, z = opErr k cl sq key.size text.length := ⟨_, rfl⟩
    obtain ⟨X, hX⟩ : ∃ X, X = if z = 0 then opBytes k cl sq key text else [] := ⟨_, rfl⟩
    obtain ⟨N, hN⟩ : ∃ N, X.length = N := ⟨_, rfl⟩
    obtain ⟨N1, hN1⟩ : ∃ N1, N1 = n + 1 := ⟨_, rfl⟩
    have hN9 : N ≤ 20000 := by
      rw [← hN, hX]
      split
      · rename_i h0
        rw [hz] at h0
        have h1 := ob_lim h0
        rw [opBytes_eq]
        have g1 := num_len k
        have g2 := num_len cl
        have g3 := num_len sq
        have g4 := row_len (kb key)
        have g5 := row_len text
        rw [kb_len] at g4
        simp only [List.length_append, List.length_nil]
        omega
      · simp
    have HE1 : As (∀ B d wX, Rd wX B (iv .u8 text) → n ≤ d → (B = none → d = 0) → Calls Try.prog 27 #[.agg #[.int .i64 k, .int .i64 cl, .int .i64 sq, .string key, .slice B n d]] wX fun e w' => ∃ A1 c1, e = .returned (.tuple #[.slice A1 N c1, .int .i64 z]) ∧ Rd w' A1 (iv .u8 X) ∧ Kp [] wX w' ∧ N ≤ c1 ∧ (A1 = none → c1 = 0)) :=
      ⟨fun B d wX r9 g9 m9 => (encode_any k cl sq key B n d text wX hn r9 g9 m9 (by omega)).mono (fun e w' h => enc_rd h hz hX hN)⟩
    have HE2 : As (∀ wX, Kp [] w wX → Calls Try.prog 41 #[.agg #[.int .i64 k, .int .i64 cl, .int .i64 sq, .string key, .slice A n c]] wX fun e w' => ∃ A1 c1, e = .returned (.tuple #[.slice A1 N c1, .int .i64 z]) ∧ Rd w' A1 (iv .u8 X) ∧ Kp [] wX w' ∧ N ≤ c1 ∧ (A1 = none → c1 = 0)) :=
      ⟨fun wX kX => (ref13.encode_any k cl sq key A n c text wX hn (kX.rd_new hr (by simp)) hnil (by omega)).mono (fun e w' h => enc_rd h hz hX hN)⟩
    have HRM : As (∀ wX, Kp [] w wX → Calls Try.prog 40 #[.slice A n c] wX (RetOwn 5 .u8 wX (text ++ [171]))) := ⟨fun wX kX => roomy_any A n c text wX hn (kX.rd_new hr (by simp)) hnil (by omega)⟩
    have HR := As.mk hr
    have HL := As.mk hn
    have HNV := As.mk hN
    have HN1 := As.mk hN1
    have HB1 := As.mk (OpAt.new w k cl sq key A n c)
    have HK0 := As.mk ((Kp.refl [] w).alloc (.cells #[.int .i64 k, .int .i64 cl, .int .i64 sq, .string key, .slice A n c] 47))
    have hN0 : 0 < N1 := by omega
    have hN19 : N1 ≤ 6001 := by omega
    have hnN : (n : Int) ≤ (N1 : Int) := by omega
    by_cases hz0 : z = 0
    · subst hz0
      have HDO : As (dOpR X = (k, cl, sq, key, text, 0)) := ⟨by rw [hX, if_pos rfl]; exact dOpR_ob hz.symm⟩
      have HWX : As (Wf X) := ⟨by rw [hX, if_pos rfl]; exact ob_wf hwt⟩
      clear hr hn hnil hX hN hN1 hz hwt
      go_enter Try.func11, Try.ntmps11
      go_wp2_with (first
        | (go_at_call 40; refine (HRM.out _ HK0.out).mono ?_; rintro e' w1 ⟨v1, rfl, o1, k1⟩; have o1' := o1.1; rw [List.length_append, HL.out, List.length_singleton, ← HN1.out] at o1'; obtain ⟨g1, c1, rfl, hc1, hc1'⟩ := own_form o1' hN0; have HK1 : As (Kp [] w w1) := ⟨HK0.out.trans k1 (by simp)⟩; have HB11 := As.mk (HB1.out.kp k1 (by simp)); obtain ⟨d0, d1, d2, d3, d4⟩ := HB11.out.cells; have hlt1 : w.heap.size < w1.heap.size := lt_of_block HB11.out; have hsl := slice_head ht8 hz8 (some ⟨g1, 0, none⟩) N1 c1 n (by omega) (by simp); have HR1 : As (Rd w1 (some ⟨g1, 0, none⟩) (iv .u8 (text ++ [171]))) := ⟨by obtain ⟨A9, c9, h9, _, _, r9, _⟩ := own_rd o1'; cases h9; exact r9⟩; have HX1 : As (∀ wX, Kp [] w1 wX → Rd wX (some ⟨g1, 0, none⟩) (iv .u8 text)) := ⟨fun wX kX => by have h9 := kX.rd HR1.out (fun _ _ => by simp); rw [iv_app] at h9; exact h9.app⟩; have hn1 : n ≤ c1 := (by omega); clear o1 o1' k1 HRM)
        | (go_at_call 27; refine (HE1.out (some ⟨g1, 0, none⟩) c1 _ (HX1.out _ ((Kp.refl [] w1).alloc _)) hn1 (by simp)).mono ?_; rintro e' w2 ⟨A2, c2, rfl, r2, k2, g2, n2⟩; have HK12 : As (Kp [] w1 w2) := ⟨((Kp.refl [] w1).alloc _).trans k2 (by simp)⟩; have HR2 := As.mk r2; have HN2 := As.mk n2; obtain ⟨d20, d21, d22, d23, d24⟩ := (HB11.out.kp HK12.out (by simp)).cells; have HE22 := As.mk (HE2.out w2 (HK1.out.trans HK12.out (by simp))); clear r2 k2 n2 d0 d1 d2 d3 d4 HE1 HE2)
        | (go_at_call 41; refine HE22.out.mono ?_; rintro e' w3 ⟨A3, c3, rfl, r3, k3, _, _⟩; have HK23 := As.mk k3; have HQ1 := As.mk (same_self (A := A2) (B := A3) (c := c2) (d := c3) HNV.out (k3.rd HR2.out (fun _ _ => by simp)) r3 (by omega)); clear r3 k3 HE22 d20 d21 d22 d23 d24)
        | (go_at_call 29; refine HQ1.out.mono ?_; rintro e' w4 ⟨rfl, k4⟩; have HK24 : As (Kp [] w2 w4) := ⟨HK23.out.trans k4 (by simp)⟩; have HK14 : As (Kp [] w1 w4) := ⟨HK12.out.trans HK24.out (by simp)⟩; obtain ⟨d40, d41, d42, d43, d44⟩ := (HB11.out.kp HK14.out (by simp)).cells; have HST := As.mk (stands_any (some ⟨g1, 0, none⟩) A N1 c1 n c (text ++ [171]) text w4 (by rw [List.length_append, HL.out, HN1.out]; rfl) HL.out (HK14.out.rd HR1.out (fun _ _ => by simp)) ((HK1.out.trans HK14.out (by simp)).rd_new HR.out (by simp)) hc1 (by rw [List.length_append, HL.out]; simp; omega) (by rw [HL.out]; omega)); rw [decide_eq_true (rfl : text ++ [171] = text ++ [171])] at HST; clear k4 HQ1)
        | (go_at_call 42; refine HST.out.mono ?_; rintro e' w5 ⟨rfl, nk5, hw5⟩; have HK25 : As (Kp [] w2 w5) := ⟨by rw [hw5]; exact HK24.out.drewN _⟩; have HK15 : As (Kp [] w1 w5) := ⟨HK12.out.trans HK25.out (by simp)⟩; have HDE := As.mk (decode_any A2 N c2 X w5 HNV.out (HK25.out.rd HR2.out (fun _ _ => by simp)) HN2.out HWX.out (by omega)); clear hw5 HST)
        | (go_at_call 43; refine HDE.out.mono ?_; rintro e' w6 ⟨k', c', q', key', text', er, A9, n9, c9, hd, rfl, hn9, r9, h9, m9, k6⟩; rw [HDO.out] at hd; simp only [Prod.mk.injEq] at hd; obtain ⟨rfl, rfl, rfl, rfl, rfl, rfl⟩ := hd; have HK16 : As (Kp [] w1 w6) := ⟨HK15.out.trans k6 (by simp)⟩; obtain ⟨d60, d61, d62, d63, d64⟩ := (HB11.out.kp HK16.out (by simp)).cells; have hlt6 : w.heap.size < w6.heap.size := (by have := HK16.out.size; omega); have HOP : As (∀ wX, Kp [] w6 wX → Calls Try.prog 30 #[.agg #[.int .i64 k, .int .i64 cl, .int .i64 sq, .string key, .slice A9 n9 c9], .agg #[.int .i64 k, .int .i64 cl, .int .i64 sq, .string key, .slice A n c]] wX fun e w' => e = .returned (.bool true) ∧ Kp [] wX w') := ⟨fun wX kX => by have h := ops_any k cl sq key A9 n9 c9 text k cl sq key A n c text wX hn9 HL.out (kX.rd r9 (fun _ _ => by simp)) ((HK1.out.trans (HK16.out.trans kX (by simp)) (by simp)).rd_new HR.out (by simp)) (by have := HL.out; omega); rwa [decide_eq_true (⟨rfl, rfl, rfl, rfl, rfl⟩ : k = k ∧ cl = cl ∧ sq = sq ∧ key = key ∧ text = text)] at h⟩; clear HDE r9 m9 k6 d40 d41 d42 d43 d44)
        | (go_at_call 30; refine (HOP.out _ ((Kp.refl [] w6).alloc _)).mono ?_; rintro e' w7 ⟨rfl, k7⟩; have HK7 : As (Kp [] w w7) := ⟨(HK1.out.trans HK16.out (by simp)).trans (((Kp.refl [] w6).alloc _).trans k7 (by simp)) (by simp)⟩; clear k7 HOP)
        | (go_at_call 28; refine (known_any _).mono ?_; rintro e' w8 ⟨rfl, k8⟩; have HKE : As (Kp [] w w8) := ⟨HK7.out.trans k8 (by simp)⟩; clear k8))
      go_ret
      exact ⟨rfl, HKE.out.below⟩
    · have hzb : (z != 0) = true := by simpa using hz0
      clear hr hn hnil hX hN hN1 hz hz0 hwt
      go_enter Try.func11, Try.ntmps11
      go_wp2_with (first
        | (go_at_call 40; refine (HRM.out _ HK0.out).mono ?_; rintro e' w1 ⟨v1, rfl, o1, k1⟩; have o1' := o1.1; rw [List.length_append, HL.out, List.length_singleton, ← HN1.out] at o1'; obtain ⟨g1, c1, rfl, hc1, hc1'⟩ := own_form o1' hN0; have HK1 : As (Kp [] w w1) := ⟨HK0.out.trans k1 (by simp)⟩; have HB11 := As.mk (HB1.out.kp k1 (by simp)); obtain ⟨d0, d1, d2, d3, d4⟩ := HB11.out.cells; have hlt1 : w.heap.size < w1.heap.size := lt_of_block HB11.out; have hsl := slice_head ht8 hz8 (some ⟨g1, 0, none⟩) N1 c1 n (by omega) (by simp); have HR1 : As (Rd w1 (some ⟨g1, 0, none⟩) (iv .u8 (text ++ [171]))) := ⟨by obtain ⟨A9, c9, h9, _, _, r9, _⟩ := own_rd o1'; cases h9; exact r9⟩; have HX1 : As (∀ wX, Kp [] w1 wX → Rd wX (some ⟨g1, 0, none⟩) (iv .u8 text)) := ⟨fun wX kX => by have h9 := kX.rd HR1.out (fun _ _ => by simp); rw [iv_app] at h9; exact h9.app⟩; have hn1 : n ≤ c1 := (by omega); clear o1 o1' k1 HRM)
        | (go_at_call 27; refine (HE1.out (some ⟨g1, 0, none⟩) c1 _ (HX1.out _ ((Kp.refl [] w1).alloc _)) hn1 (by simp)).mono ?_; rintro e' w2 ⟨A2, c2, rfl, r2, k2, g2, n2⟩; have HK12 : As (Kp [] w1 w2) := ⟨((Kp.refl [] w1).alloc _).trans k2 (by simp)⟩; have HR2 := As.mk r2; have HN2 := As.mk n2; obtain ⟨d20, d21, d22, d23, d24⟩ := (HB11.out.kp HK12.out (by simp)).cells; have HE22 := As.mk (HE2.out w2 (HK1.out.trans HK12.out (by simp))); clear r2 k2 n2 d0 d1 d2 d3 d4 HE1 HE2)
        | (go_at_call 41; refine HE22.out.mono ?_; rintro e' w3 ⟨A3, c3, rfl, r3, k3, _, _⟩; have HK23 := As.mk k3; have HQ1 := As.mk (same_self (A := A2) (B := A3) (c := c2) (d := c3) HNV.out (k3.rd HR2.out (fun _ _ => by simp)) r3 (by omega)); clear r3 k3 HE22 d20 d21 d22 d23 d24)
        | (go_at_call 29; refine HQ1.out.mono ?_; rintro e' w4 ⟨rfl, k4⟩; have HK24 : As (Kp [] w2 w4) := ⟨HK23.out.trans k4 (by simp)⟩; have HK14 : As (Kp [] w1 w4) := ⟨HK12.out.trans HK24.out (by simp)⟩; obtain ⟨d40, d41, d42, d43, d44⟩ := (HB11.out.kp HK14.out (by simp)).cells; have HST := As.mk (stands_any (some ⟨g1, 0, none⟩) A N1 c1 n c (text ++ [171]) text w4 (by rw [List.length_append, HL.out, HN1.out]; rfl) HL.out (HK14.out.rd HR1.out (fun _ _ => by simp)) ((HK1.out.trans HK14.out (by simp)).rd_new HR.out (by simp)) hc1 (by rw [List.length_append, HL.out]; simp; omega) (by rw [HL.out]; omega)); rw [decide_eq_true (rfl : text ++ [171] = text ++ [171])] at HST; clear k4 HQ1)
        | (go_at_call 42; refine HST.out.mono ?_; rintro e' w5 ⟨rfl, nk5, hw5⟩; have HK5 : As (Kp [] w w5) := ⟨by rw [hw5]; exact (HK1.out.trans HK14.out (by simp)).drewN _⟩; clear hw5 HST)
        | (go_at_call 28; refine (known_any _).mono ?_; rintro e' w6 ⟨rfl, k6⟩; have HKE : As (Kp [] w w6) := ⟨HK5.out.trans k6 (by simp)⟩; clear k6))
      go_ret
      exact ⟨rfl, HKE.out.below⟩

theorem oenc_row (w : World) (k1 c1 s1 : Int) (key1 : ByteArray) (A : Option Addr) (n c : Nat) (x : List Int) (_ : (Lit.int .i64 k1).wf = true) (_ : (Lit.int .i64 c1).wf = true) (_ : (Lit.int .i64 s1).wf = true)
    (hn : x.length = n) (hr : Rd w A (iv .u8 x)) (_ : n ≤ c) (_ : c ≤ 9223372036854775807) (hnil : A = none → c = 0) (hw : ∀ y ∈ x, (Lit.int .u8 y).wf = true) (hk : key1.size ≤ 140737488351232) (hb : n ≤ 140737488351232) :
    Calls Try.prog 11 #[.agg #[.int .i64 k1, .int .i64 c1, .int .i64 s1, .string key1, .slice A n c]] w fun e w' => e = .returned (.bool true) ∧ Below w.heap.size w w' :=
  oenc_any w k1 c1 s1 key1 A n c x hn hr hnil (fun y hy => wf_u8 (hw y hy)) hb hk

end Go.Proofs.Ytlknlpiiogmfbaa.haystacklaw13
