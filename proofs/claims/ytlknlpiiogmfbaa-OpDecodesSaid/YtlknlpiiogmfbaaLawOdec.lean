/- The walk of OpDecodes: any bytes as an op, as a reply, as places, or refused; what is read is written so. -/
import Derived.Test.YtlknlpiiogmfbaaMatB
import Derived.Test.YtlknlpiiogmfbaaMatC
import Derived.Test.YtlknlpiiogmfbaaMatD
import Derived.Test.YtlknlpiiogmfbaaMatE
import Derived.Test.YtlknlpiiogmfbaaDecF
import Derived.Test.YtlknlpiiogmfbaaRepF
import Derived.Test.YtlknlpiiogmfbaaLawReps
import Derived.Deep.CutBlock
namespace Go.Proofs.Ytlknlpiiogmfbaa.haystacklaw13
open Go.RowKit H O opk

theorem dec_fix {xs : List Int} {k c q : Int} {key : ByteArray} {text : List Int} {er : Int} {tn : Nat} (hd : dOpR xs = (k, c, q, key, text, er)) (ht : text.length = tn) {w w' : World} {e : Ending} (h : ODec xs w e w') :
    ∃ A d, e = .returned (.tuple #[.agg #[.int .i64 k, .int .i64 c, .int .i64 q, .string key, .slice A tn d], .int .i64 er]) ∧ Rd w' A (iv .u8 text) ∧ tn ≤ d ∧ (A = none → d = 0) ∧ Kp [] w w' := by
  obtain ⟨k', c', q', key', text', er', A, n, d, hd', rfl, hn, r, h1, h2, h3⟩ := h
  rw [hd] at hd'
  cases hd'
  rw [ht] at hn
  subst hn
  exact ⟨A, d, rfl, r, h1, h2, h3⟩
theorem rep_fix {xs : List Int} {er : Int} {l : List Int} {z : Int} {ln : Nat} (hd : dRep xs = (er, l, z)) (ht : l.length = ln) {w w' : World} {e : Ending} (h : opk.DRep xs w e w') :
    ∃ A d, e = .returned (.tuple #[.agg #[.int .i64 er, .slice A ln d], .int .i64 z]) ∧ Rd w' A (iv .i64 l) ∧ ln ≤ d ∧ (A = none → d = 0) ∧ Kp [] w w' := by
  obtain ⟨er', l', z', A, n, d, hd', rfl, hn, r, h1, h2, h3⟩ := h
  rw [hd] at hd'
  cases hd'
  rw [ht] at hn
  subst hn
  exact ⟨A, d, rfl, r, h1, h2, h3⟩
theorem rep_fix2 {xs : List Int} {er : Int} {l : List Int} {z : Int} {ln : Nat} (hd : dRep xs = (er, l, z)) (ht : l.length = ln) {w w' : World} {e : Ending} (h : ref13.DRep xs w e w') :
    ∃ A d, e = .returned (.tuple #[.int .i64 er, .slice A ln d, .int .i64 z]) ∧ Rd w' A (iv .i64 l) ∧ Kp [] w w' := by
  obtain ⟨er', l', z', A, n, d, hd', rfl, hn, r, h1, h2, h3⟩ := h
  rw [hd] at hd'
  cases hd'
  rw [ht] at hn
  subst hn
  exact ⟨A, d, rfl, r, h3⟩
theorem ms_fix {xs : List Int} {l : List (ByteArray × Int)} {z : Int} {ln : Nat} (hd : dMs xs = (l, z)) (ht : l.length = ln) {w w' : World} {e : Ending} (h : reader.DMs xs w e w') :
    ∃ A d, e = .returned (.tuple #[.slice A ln d, .int .i64 z]) ∧ Rd w' A (mv l) ∧ Kp [] w w' := by
  obtain ⟨l', z', A, n, d, hd', rfl, hn, r, h1, h2, h3⟩ := h
  rw [hd] at hd'
  cases hd'
  rw [ht] at hn
  subst hn
  exact ⟨A, d, rfl, r, h3⟩
theorem ms_fix2 {xs : List Int} {l : List (ByteArray × Int)} {z : Int} {ln : Nat} (hd : dMs xs = (l, z)) (ht : l.length = ln) {w w' : World} {e : Ending} (h : refr.DMs xs w e w') :
    ∃ A d, e = .returned (.tuple #[.slice A ln d, .int .i64 z]) ∧ Rd w' A (mv l) ∧ Kp [] w w' := by
  obtain ⟨l', z', A, n, d, hd', rfl, hn, r, h1, h2, h3⟩ := h
  rw [hd] at hd'
  cases hd'
  rw [ht] at hn
  subst hn
  exact ⟨A, d, rfl, r, h3⟩
theorem dOpR_good {xs : List Int} {k c q : Int} {key : ByteArray} {text : List Int} (h : dOpR xs = (k, c, q, key, text, 0)) : opErr k c q key.size text.length = 0 ∧ opBytes k c q key text = xs := by
  obtain ⟨n0, s1, h0⟩ : ∃ n s, stNum (some xs) = (n, s) := ⟨_, _, rfl⟩
  obtain ⟨n1, s2, h1⟩ : ∃ n s, stNum s1 = (n, s) := ⟨_, _, rfl⟩
  obtain ⟨n2, s3, h2⟩ : ∃ n s, stNum s2 = (n, s) := ⟨_, _, rfl⟩
  obtain ⟨p, s4, h3⟩ : ∃ n s, stBytes s3 = (n, s) := ⟨_, _, rfl⟩
  obtain ⟨t, s5, h4⟩ : ∃ n s, stBytes s4 = (n, s) := ⟨_, _, rfl⟩
  rw [dOpR_eq h0 h1 h2 h3 h4] at h
  split at h
  · rename_i hc
    obtain ⟨_, hc1, hc2⟩ := hc
    simp only [Prod.mk.injEq, and_true] at h
    obtain ⟨rfl, rfl, rfl, rfl, rfl⟩ := h
    rw [str_size]
    exact ⟨hc1, hc2⟩
  · simp at h
theorem dOpR_text {xs : List Int} {k c q : Int} {key : ByteArray} {text : List Int} {er : Int} (h : dOpR xs = (k, c, q, key, text, er)) : text.length ≤ xs.length := by
  obtain ⟨n0, s1, h0⟩ : ∃ n s, stNum (some xs) = (n, s) := ⟨_, _, rfl⟩
  obtain ⟨n1, s2, h1⟩ : ∃ n s, stNum s1 = (n, s) := ⟨_, _, rfl⟩
  obtain ⟨n2, s3, h2⟩ : ∃ n s, stNum s2 = (n, s) := ⟨_, _, rfl⟩
  obtain ⟨p, s4, h3⟩ : ∃ n s, stBytes s3 = (n, s) := ⟨_, _, rfl⟩
  obtain ⟨t, s5, h4⟩ : ∃ n s, stBytes s4 = (n, s) := ⟨_, _, rfl⟩
  rw [dOpR_eq h0 h1 h2 h3 h4] at h
  have hl0 : (left (some xs)).length ≤ xs.length := by simp [left]
  have hl1 : (left s1).length ≤ xs.length := by have q := reader.left_le hl0; rwa [h0] at q
  have hl2 : (left s2).length ≤ xs.length := by have q := reader.left_le hl1; rwa [h1] at q
  have hl3 : (left s3).length ≤ xs.length := by have q := reader.left_le hl2; rwa [h2] at q
  have hl4 : (left s4).length ≤ xs.length := by have q := stBytes_left (s := s3) hl3; rwa [h3] at q
  have ht := stBytes_len (s := s4) hl4
  rw [h4] at ht
  split at h
  · simp only [Prod.mk.injEq] at h
    obtain ⟨_, _, _, _, rfl, _⟩ := h
    exact ht
  · simp only [Prod.mk.injEq] at h
    obtain ⟨_, _, _, _, rfl, _⟩ := h
    simp
theorem dRep_len {xs : List Int} {er : Int} {l : List Int} {z : Int} (h : dRep xs = (er, l, z)) : l.length ≤ 8 := by
  obtain ⟨n0, s1, h0⟩ : ∃ n s, stNum (some xs) = (n, s) := ⟨_, _, rfl⟩
  obtain ⟨n1, s2, h1⟩ : ∃ n s, stNum s1 = (n, s) := ⟨_, _, rfl⟩
  simp only [dRep, h0, h1] at h
  split at h
  · rename_i hc
    simp only [Prod.mk.injEq] at h
    obtain ⟨_, rfl, _⟩ := h
    rw [reader.stNums_len]
    exact hc.2.1
  · simp only [Prod.mk.injEq] at h
    obtain ⟨_, rfl, _⟩ := h
    simp
theorem mSize_rows (ms : List (ByteArray × Int)) : mSize ms ≤ 3 * (mRows ms).length := by
  induction ms with
  | nil => simp [mSize]
  | cons m ms ih =>
    have h1 := num_pos m.2
    have h2 := num_pos ((kb m.1).length : Int)
    have h3 : (row (kb m.1)).length = (num ((kb m.1).length : Int)).length + m.1.size := by rw [row, List.length_append, kb_len]
    simp only [mRows_cons, mRow, mSize, List.map_cons, List.sum_cons, List.length_append] at ih ⊢
    omega
/-- bytes written again, next to those that were read -/
theorem rd_of_own {w w' : World} {v : Value} {X : List Int} {n : Nat} (o : Own 5 .u8 w' w.heap.size v X) (hn : X.length = n) : ∃ A c, v = .slice A n c ∧ Rd w' A (iv .u8 X) := by
  obtain ⟨A, c, rfl, _, _, r, _⟩ := own_rd o.1
  exact ⟨A, c, by rw [hn], r⟩

set_option maxHeartbeats 16000000 in
set_option maxRecDepth 100000 in
theorem odec_law (w : World) (A : Option Addr) (n c : Nat) (xs : List Int) (hn : xs.length = n) (hr : Rd w A (iv .u8 xs)) (hc : n ≤ c) (hc9 : c ≤ 9223372036854775807) (hnil : A = none → c = 0) (hw : Wf xs) (hb : n ≤ 140737488351232) :
    Calls Try.prog 12 #[.slice A n c] w fun e w' => e = .returned (.bool true) ∧ Below w.heap.size w w' := by
  by_cases hbig : 6000 < n
  · clear hr hnil hn hw
    go_enter Try.func12, Try.ntmps12
    go_wp2
    go_ret
    exact ⟨rfl, (Kp.refl [] w).below⟩
  · have hn6 : n ≤ 6000 := by omega
    have hA : (∀ a, A = some a → a.block < w.heap.size) ∨ n = 0 := by
      by_cases h0 : 0 < n
      · left
        intro a ha
        obtain ⟨a', ha', h9⟩ := hr.lt (by rw [iv_len, hn]; exact h0)
        rw [ha] at ha'; cases ha'; exact h9
      · right; omega
    have hAX : ∀ wX, Kp [] w wX → (∀ a, A = some a → a.block < wX.heap.size) ∨ n = 0 := fun wX kX => hA.imp (fun h a ha => by have h1 := h a ha; have h2 := kX.size; omega) id
    obtain ⟨k, cl, sq, key, text, er, hd⟩ : ∃ k cl sq key text er, dOpR xs = (k, cl, sq, key, text, er) := ⟨_, _, _, _, _, _, rfl⟩
    obtain ⟨tn, htn⟩ : ∃ tn, text.length = tn := ⟨_, rfl⟩
    obtain ⟨re, rl, rz, hrep⟩ : ∃ a b z, dRep xs = (a, b, z) := ⟨_, _, _, rfl⟩
    obtain ⟨ln, hln⟩ : ∃ k, rl.length = k := ⟨_, rfl⟩
    obtain ⟨ms, mz, hms⟩ : ∃ a z, dMs xs = (a, z) := ⟨_, _, rfl⟩
    obtain ⟨mn, hmn⟩ : ∃ k, ms.length = k := ⟨_, rfl⟩
    have htn9 : tn ≤ 6000 := by have := dOpR_text hd; omega
    have hln9 : ln ≤ 8 := by have := dRep_len hrep; omega
    have hmn9 : mn ≤ 6000 := by have := dMs_len hms; omega
    obtain ⟨N1, hN1⟩ : ∃ N1, N1 = n + 1 := ⟨_, rfl⟩
    have hN0 : 0 < N1 := by omega
    have hN19 : N1 ≤ 6001 := by omega
    have hnN : (n : Int) ≤ (N1 : Int) := by omega
    have HRM := As.mk (roomy_any A n c xs w hn hr hnil (by omega))
    have HD1 : As (∀ B d wX, Rd wX B (iv .u8 xs) → (B = none → d = 0) → Calls Try.prog 43 #[.slice B n d] wX fun e w' => ∃ A2 c2, e = .returned (.tuple #[.agg #[.int .i64 k, .int .i64 cl, .int .i64 sq, .string key, .slice A2 tn c2], .int .i64 er]) ∧ Rd w' A2 (iv .u8 text) ∧ tn ≤ c2 ∧ (A2 = none → c2 = 0) ∧ Kp [] wX w') :=
      ⟨fun B d wX r9 m9 => (decode_any B n d xs wX hn r9 m9 hw (by omega)).mono (fun e w' h => dec_fix hd htn h)⟩
    have HD2 : As (∀ wX, Kp [] w wX → Calls Try.prog 44 #[.slice A n c] wX fun e w' => ∃ A2 c2, e = .returned (.tuple #[.agg #[.int .i64 k, .int .i64 cl, .int .i64 sq, .string key, .slice A2 tn c2], .int .i64 er]) ∧ Rd w' A2 (iv .u8 text) ∧ tn ≤ c2 ∧ (A2 = none → c2 = 0) ∧ Kp [] wX w') :=
      ⟨fun wX kX => (ref13.decode_any A n c xs wX hn (kX.rd_new hr (by simp)) hc hc9 hnil (hAX wX kX) hw (by omega)).mono (fun e w' h => dec_fix hd htn h)⟩
    have HP1 : As (∀ B d wX, Rd wX B (iv .u8 xs) → (B = none → d = 0) → Calls Try.prog 34 #[.slice B n d] wX fun e w' => ∃ A2 c2, e = .returned (.tuple #[.agg #[.int .i64 re, .slice A2 ln c2], .int .i64 rz]) ∧ Rd w' A2 (iv .i64 rl) ∧ ln ≤ c2 ∧ (A2 = none → c2 = 0) ∧ Kp [] wX w') :=
      ⟨fun B d wX r9 m9 => (decRep_any B n d xs wX hn r9 m9 hw (by omega)).mono (fun e w' h => rep_fix hrep hln h)⟩
    have HP2 : As (∀ wX, Kp [] w wX → Calls Try.prog 45 #[.slice A n c] wX fun e w' => ∃ A2 c2, e = .returned (.tuple #[.int .i64 re, .slice A2 ln c2, .int .i64 rz]) ∧ Rd w' A2 (iv .i64 rl) ∧ Kp [] wX w') :=
      ⟨fun wX kX => (ref13.decRep_any A n c xs wX hn (kX.rd_new hr (by simp)) hc hc9 hnil (hAX wX kX) hw (by omega)).mono (fun e w' h => rep_fix2 hrep hln h)⟩
    have HM1 : As (∀ B d wX, Rd wX B (iv .u8 xs) → (B = none → d = 0) → Calls Try.prog 37 #[.slice B n d] wX fun e w' => ∃ A2 c2, e = .returned (.tuple #[.slice A2 mn c2, .int .i64 mz]) ∧ Rd w' A2 (mv ms) ∧ Kp [] wX w') :=
      ⟨fun B d wX r9 m9 => (readMs_any B n d xs wX hn r9 m9 hw (by omega)).mono (fun e w' h => ms_fix hms hmn h)⟩
    have HM2 : As (∀ wX, Kp [] w wX → Calls Try.prog 38 #[.slice A n c] wX fun e w' => ∃ A2 c2, e = .returned (.tuple #[.slice A2 mn c2, .int .i64 mz]) ∧ Rd w' A2 (mv ms) ∧ Kp [] wX w') :=
      ⟨fun wX kX => (ref13.readMs_any A n c xs wX hn (kX.rd_new hr (by simp)) hc hc9 hnil (hAX wX kX) hw (by omega)).mono (fun e w' h => ms_fix2 hms hmn h)⟩
    have HR := As.mk hr
    have HL := As.mk hn
    have HNIL := As.mk hnil
    have HN1 := As.mk hN1
    have HTN := As.mk htn
    have HLN := As.mk hln
    have HMN := As.mk hmn
    have HWF := As.mk hw
    have HDE := As.mk hd
    have HRE := As.mk hrep
    have HME := As.mk hms
    clear hr hn hnil hN1 htn hln hmn hw hd hrep hms hA hAX hc hc9 hbig
    go_enter Try.func12, Try.ntmps12
    go_upto_region 12 with (first
      | (go_at_call 40; refine HRM.out.mono ?_; rintro e' w1 ⟨v1, rfl, o1, k1⟩; have o1' := o1.1; rw [List.length_append, HL.out, List.length_singleton, ← HN1.out] at o1'; obtain ⟨g1, c1, rfl, hc1, hc1'⟩ := own_form o1' hN0; have HK1 := As.mk k1; have hsl := slice_head ht8 hz8 (some ⟨g1, 0, none⟩) N1 c1 n (by omega) (by simp); have HR1 : As (Rd w1 (some ⟨g1, 0, none⟩) (iv .u8 (xs ++ [171]))) := ⟨by obtain ⟨A9, c9, h9, _, _, r9, _⟩ := own_rd o1'; cases h9; exact r9⟩; have HX1 : As (∀ wX, Kp [] w1 wX → Rd wX (some ⟨g1, 0, none⟩) (iv .u8 xs)) := ⟨fun wX kX => by have h9 := kX.rd HR1.out (fun _ _ => by simp); rw [iv_app] at h9; exact h9.app⟩; have hn1 : n ≤ c1 := (by omega); clear o1 o1' k1 HRM)
      | (go_at_call 43; refine (HD1.out (some ⟨g1, 0, none⟩) c1 _ (HX1.out _ (Kp.refl [] _)) (by simp)).mono ?_; rintro e' w2 ⟨A2, c2, rfl, r2, g2, n2, k2⟩; have HK12 := As.mk k2; have HR2 := As.mk r2; have HG2 := As.mk g2; have HN2 := As.mk n2; clear r2 g2 n2 k2 HD1)
      | (go_at_call 44; refine (HD2.out _ ((HK1.out.trans HK12.out (by simp)).alloc _)).mono ?_; rintro e' w3 ⟨A3, c3, rfl, r3, g3, n3, k3⟩; have HK23 : As (Kp [] w2 w3) := ⟨((Kp.refl [] _).alloc _).trans k3 (by simp)⟩; have HO43 := As.mk ((OpAt.new w2 k cl sq key A2 tn c2).kp k3 (by simp)); have HR3 := As.mk r3; clear r3 g3 n3 k3 HD2)
      | (go_at_call 34; refine (HP1.out (some ⟨g1, 0, none⟩) c1 _ (HX1.out _ ((HK12.out.trans HK23.out (by simp)).alloc _)) (by simp)).mono ?_; rintro e' w4 ⟨A4, c4, rfl, r4, g4, n4, k4⟩; have HK34 : As (Kp [] w3 w4) := ⟨((Kp.refl [] _).alloc _).trans k4 (by simp)⟩; have HO44 := As.mk (HO43.out.kp HK34.out (by simp)); have HO64 := As.mk ((OpAt.new w3 k cl sq key A3 tn c3).kp k4 (by simp)); have HR4 := As.mk r4; have HG4 := As.mk g4; have HN4 := As.mk n4; clear r4 g4 n4 k4 HP1 HO43)
      | (go_at_call 45; refine (HP2.out _ ((HK1.out.trans (HK12.out.trans (HK23.out.trans HK34.out (by simp)) (by simp)) (by simp)).alloc _)).mono ?_; rintro e' w5 ⟨A5, c5, rfl, r5, k5⟩; have HK45 : As (Kp [] w4 w5) := ⟨((Kp.refl [] _).alloc _).trans k5 (by simp)⟩; have HP85 := As.mk ((RepAt.new w4 re (.slice A4 ln c4)).kp k5 (by simp)); have HR5 := As.mk r5; clear r5 k5 HP2)
      | (go_at_call 37; refine (HM1.out (some ⟨g1, 0, none⟩) c1 _ (HX1.out _ (HK12.out.trans (HK23.out.trans (HK34.out.trans HK45.out (by simp)) (by simp)) (by simp))) (by simp)).mono ?_; rintro e' w6 ⟨A6, c6, rfl, r6, k6⟩; have HK56 := As.mk k6; have HR6 := As.mk r6; clear r6 k6 HM1)
      | (go_at_call 38; refine (HM2.out _ (HK1.out.trans (HK12.out.trans (HK23.out.trans (HK34.out.trans (HK45.out.trans HK56.out (by simp)) (by simp)) (by simp)) (by simp)) (by simp))).mono ?_; rintro e' w7 ⟨A7, c7, rfl, r7, k7⟩; have HK67 := As.mk k7; have HK47 : As (Kp [] w4 w7) := ⟨HK45.out.trans (HK56.out.trans k7 (by simp)) (by simp)⟩; have HK17 : As (Kp [] w1 w7) := ⟨HK12.out.trans (HK23.out.trans (HK34.out.trans HK47.out (by simp)) (by simp)) (by simp)⟩; have HO47 := As.mk (HO44.out.kp HK47.out (by simp)); have HO67 := As.mk (HO64.out.kp HK47.out (by simp)); have HP87 := As.mk (HP85.out.kp (HK56.out.trans k7 (by simp)) (by simp)); obtain ⟨d40, d41, d42, d43, d44⟩ := HO47.out.cells; obtain ⟨d60, d61, d62, d63, d64⟩ := HO67.out.cells; have HR7 := As.mk r7; have HOP := As.mk (ops_any k cl sq key A2 tn c2 text k cl sq key A3 tn c3 text w7 HTN.out HTN.out ((HK23.out.trans (HK34.out.trans HK47.out (by simp)) (by simp)).rd HR2.out (fun _ _ => by simp)) ((HK34.out.trans HK47.out (by simp)).rd HR3.out (fun _ _ => by simp)) (by omega)); rw [decide_eq_true (⟨rfl, rfl, rfl, rfl, rfl⟩ : k = k ∧ cl = cl ∧ sq = sq ∧ key = key ∧ text = text)] at HOP; clear r7 k7 HM2 HO44 HO64 HP85)
      | (go_at_call 30; refine HOP.out.mono ?_; rintro e' w8 ⟨rfl, k8⟩; have HK78 := As.mk k8; have HP88 := As.mk (HP87.out.kp k8 (by simp)); obtain ⟨p80, p81⟩ := HP88.out.cells; have HII := As.mk (ints_self (A := A4) (B := A5) (c := c4) (d := c5) HLN.out ((HK47.out.trans k8 (by simp)).rd HR4.out (fun _ _ => by simp)) ((HK56.out.trans (HK67.out.trans k8 (by simp)) (by simp)).rd HR5.out (fun _ _ => by simp)) (by omega)); clear k8 HOP d40 d41 d42 d43 d44 d60 d61 d62 d63 d64)
      | (go_at_call 33; refine HII.out.mono ?_; rintro e' w9 ⟨rfl, k9⟩; have HK79 := As.mk (HK78.out.trans k9 (by simp)); have HMM := As.mk (matches_any A6 A7 mn c6 mn c7 ms ms w9 HMN.out HMN.out ((HK67.out.trans HK79.out (by simp)).rd HR6.out (fun _ _ => by simp)) (HK79.out.rd HR7.out (fun _ _ => by simp)) (by omega) (by omega)); rw [decide_eq_true (rfl : ms = ms)] at HMM; clear k9 HII p80 p81)
      | (go_at_call 39; refine HMM.out.mono ?_; rintro e' w10 ⟨rfl, k10⟩; have HK710 : As (Kp [] w7 w10) := ⟨HK79.out.trans k10 (by simp)⟩; have HST := As.mk (stands_any (some ⟨g1, 0, none⟩) A N1 c1 n c (xs ++ [171]) xs w10 (by rw [List.length_append, HL.out, HN1.out]; rfl) HL.out ((HK17.out.trans HK710.out (by simp)).rd HR1.out (fun _ _ => by simp)) ((HK1.out.trans (HK17.out.trans HK710.out (by simp)) (by simp)).rd_new HR.out (by simp)) hc1 (by rw [List.length_append, HL.out]; simp; omega) (by rw [HL.out]; omega)); rw [decide_eq_true (rfl : xs ++ [171] = xs ++ [171])] at HST; clear k10 HMM)
      | (go_at_call 42; refine HST.out.mono ?_; rintro e' w11 ⟨rfl, nk11, hw11⟩; have HK711 : As (Kp [] w7 w11) := ⟨by rw [hw11]; exact HK710.out.drewN _⟩; clear hw11 HST))
    have HK11 : As (Kp [] w w11) := ⟨HK1.out.trans (HK17.out.trans HK711.out (by simp)) (by simp)⟩
    have HO411 := As.mk (HO47.out.kp HK711.out (by simp))
    have HP811 := As.mk (HP87.out.kp HK711.out (by simp))
    have HSM : As (∀ wX A8 c8, Kp [] w11 wX → Rd wX A8 (iv .u8 xs) → Calls Try.prog 29 #[.slice A8 n c8, .slice A n c] wX fun e w' => e = .returned (.bool true) ∧ Kp [] wX w') :=
      ⟨fun wX A8 c8 kX r8 => same_self' HL.out r8 ((HK11.out.trans kX (by simp)).rd_new HR.out (by simp)) (by omega)⟩
    have HEN : As (er = 0 → ∀ wX, Kp [] w11 wX → Calls Try.prog 27 #[.agg #[.int .i64 k, .int .i64 cl, .int .i64 sq, .string key, .slice A2 tn c2]] wX fun e w' => ∃ A8 c8, e = .returned (.tuple #[.slice A8 n c8, .int .i64 0]) ∧ Rd w' A8 (iv .u8 xs) ∧ Kp [] wX w') := ⟨by
      intro h0 wX kX
      have hd := HDE.out
      rw [h0] at hd
      obtain ⟨g1, g2⟩ := dOpR_good hd
      refine (encode_any k cl sq key A2 tn c2 text wX HTN.out ((HK23.out.trans (HK34.out.trans (HK47.out.trans (HK711.out.trans kX (by simp)) (by simp)) (by simp)) (by simp)).rd HR2.out (fun _ _ => by simp)) HG2.out HN2.out (by omega)).mono ?_
      rintro e w' ⟨v, rfl, o, kk⟩
      rw [g1, if_pos rfl, g2] at o
      obtain ⟨A8, c8, rfl, r8⟩ := rd_of_own (w := wX) o HL.out
      rw [g1]
      exact ⟨A8, c8, rfl, r8, kk⟩⟩
    have HEP : As (rz = 0 → ∀ wX, Kp [] w11 wX → Calls Try.prog 31 #[.agg #[.int .i64 re, .slice A4 ln c4]] wX fun e w' => ∃ A8 c8, e = .returned (.slice A8 n c8) ∧ Rd w' A8 (iv .u8 xs) ∧ Kp [] wX w') := ⟨by
      intro h0 wX kX
      have hd := HRE.out
      rw [h0] at hd
      have g1 := rep_canon HWF.out hd
      refine (encRep_any re A4 ln c4 rl wX HLN.out ((HK47.out.trans (HK711.out.trans kX (by simp)) (by simp)).rd HR4.out (fun _ _ => by simp)) HG4.out HN4.out (by omega)).mono ?_
      rintro e w' ⟨v, rfl, o, kk⟩
      rw [g1.1] at o
      obtain ⟨A8, c8, rfl, r8⟩ := rd_of_own (w := wX) o HL.out
      exact ⟨A8, c8, rfl, r8, kk⟩⟩
    have HEM : As (mz = 0 → ∀ wX, Kp [] w11 wX → Calls Try.prog 35 #[.slice A6 mn c6] wX fun e w' => ∃ A8 c8, e = .returned (.slice A8 n c8) ∧ Rd w' A8 (iv .u8 xs) ∧ Kp [] wX w') := ⟨by
      intro h0 wX kX
      have hd := HME.out
      rw [h0] at hd
      have g1 := ms_canon HWF.out hd
      have g2 := mSize_rows ms
      have g3 : (mRows ms).length ≤ n := by rw [← HL.out, ← g1.1, mBytes, List.length_append]; omega
      refine (mat_any A6 mn c6 ms wX HMN.out ((HK67.out.trans (HK711.out.trans kX (by simp)) (by simp)).rd HR6.out (fun _ _ => by simp)) (by omega)).mono ?_
      rintro e w' ⟨v, rfl, o, kk⟩
      rw [g1.1] at o
      obtain ⟨A8, c8, rfl, r8⟩ := rd_of_own (w := wX) o HL.out
      exact ⟨A8, c8, rfl, r8, kk⟩⟩
    have KA : As (Kp [] w11 w11) := ⟨Kp.refl _ _⟩
    clear hsl
    obtain ⟨d40, d41, d42, d43, d44⟩ := HO411.out.cells
    by_cases h1 : er = 0
    · have hE := As.mk (HEN.out h1)
      subst h1
      go_upto_region 16 with (first
        | (go_at_call 27; refine (hE.out _ KA.out).mono ?_; rintro e' wea ⟨A8, c8, rfl, r8, ka⟩; have Kea : As (Kp [] w11 wea) := ⟨KA.out.trans ka (by simp)⟩; have HSe := As.mk (HSM.out wea A8 c8 Kea.out r8); clear r8 ka)
        | (go_at_call 29; refine HSe.out.mono ?_; rintro e' web ⟨rfl, kb⟩; have Ke : As (Kp [] w11 web) := ⟨Kea.out.trans kb (by simp)⟩; clear kb HSe))
      obtain ⟨q0, q1⟩ := (HP811.out.kp Ke.out (by simp)).cells
      by_cases h2 : rz = 0
      · have hP := As.mk (HEP.out h2)
        subst h2
        go_upto_region 18 with (first
          | (go_at_call 31; refine (hP.out _ Ke.out).mono ?_; rintro e' wra ⟨A8, c8, rfl, r8, ka⟩; have Kra : As (Kp [] w11 wra) := ⟨Ke.out.trans ka (by simp)⟩; have HSr := As.mk (HSM.out wra A8 c8 Kra.out r8); clear r8 ka)
          | (go_at_call 29; refine HSr.out.mono ?_; rintro e' wrb ⟨rfl, kb⟩; have Kr : As (Kp [] w11 wrb) := ⟨Kra.out.trans kb (by simp)⟩; clear kb HSr))
        by_cases h3 : mz = 0
        · have hM := As.mk (HEM.out h3)
          subst h3
          go_wp2_with (first
            | (go_at_call 35; refine (hM.out _ Kr.out).mono ?_; rintro e' wma ⟨A8, c8, rfl, r8, ka⟩; have Kma : As (Kp [] w11 wma) := ⟨Kr.out.trans ka (by simp)⟩; have HSm := As.mk (HSM.out wma A8 c8 Kma.out r8); clear r8 ka)
            | (go_at_call 29; refine HSm.out.mono ?_; rintro e' wmb ⟨rfl, kb⟩; have Km : As (Kp [] w11 wmb) := ⟨Kma.out.trans kb (by simp)⟩; clear kb HSm)
            | (go_at_call 28; refine (known_any _).mono ?_; rintro e' w20 ⟨rfl, k20⟩; have KE := As.mk (HK11.out.trans (Km.out.trans k20 (by simp)) (by simp)); clear k20))
          go_ret
          exact ⟨rfl, KE.out.below⟩
        · have h3b : (mz != 0) = true := by simpa using h3
          go_wp2_with (go_at_call 28; refine (known_any _).mono ?_; rintro e' w20 ⟨rfl, k20⟩; have KE := As.mk (HK11.out.trans (Kr.out.trans k20 (by simp)) (by simp)); clear k20)
          go_ret
          exact ⟨rfl, KE.out.below⟩
      · have h2b : (rz == 0) = false := by simpa using h2
        go_upto_region 18 with fail
        by_cases h3 : mz = 0
        · have hM := As.mk (HEM.out h3)
          subst h3
          go_wp2_with (first
            | (go_at_call 35; refine (hM.out _ Ke.out).mono ?_; rintro e' wma ⟨A8, c8, rfl, r8, ka⟩; have Kma : As (Kp [] w11 wma) := ⟨Ke.out.trans ka (by simp)⟩; have HSm := As.mk (HSM.out wma A8 c8 Kma.out r8); clear r8 ka)
            | (go_at_call 29; refine HSm.out.mono ?_; rintro e' wmb ⟨rfl, kb⟩; have Km : As (Kp [] w11 wmb) := ⟨Kma.out.trans kb (by simp)⟩; clear kb HSm)
            | (go_at_call 28; refine (known_any _).mono ?_; rintro e' w20 ⟨rfl, k20⟩; have KE := As.mk (HK11.out.trans (Km.out.trans k20 (by simp)) (by simp)); clear k20))
          go_ret
          exact ⟨rfl, KE.out.below⟩
        · have h3b : (mz != 0) = true := by simpa using h3
          go_wp2_with (go_at_call 28; refine (known_any _).mono ?_; rintro e' w20 ⟨rfl, k20⟩; have KE := As.mk (HK11.out.trans (Ke.out.trans k20 (by simp)) (by simp)); clear k20)
          go_ret
          exact ⟨rfl, KE.out.below⟩
    · have h1b : (er == 0) = false := by simpa using h1
      go_upto_region 16 with fail
      obtain ⟨q0, q1⟩ := (HP811.out.kp KA.out (by simp)).cells
      by_cases h2 : rz = 0
      · have hP := As.mk (HEP.out h2)
        subst h2
        go_upto_region 18 with (first
          | (go_at_call 31; refine (hP.out _ KA.out).mono ?_; rintro e' wra ⟨A8, c8, rfl, r8, ka⟩; have Kra : As (Kp [] w11 wra) := ⟨KA.out.trans ka (by simp)⟩; have HSr := As.mk (HSM.out wra A8 c8 Kra.out r8); clear r8 ka)
          | (go_at_call 29; refine HSr.out.mono ?_; rintro e' wrb ⟨rfl, kb⟩; have Kr : As (Kp [] w11 wrb) := ⟨Kra.out.trans kb (by simp)⟩; clear kb HSr))
        by_cases h3 : mz = 0
        · have hM := As.mk (HEM.out h3)
          subst h3
          go_wp2_with (first
            | (go_at_call 35; refine (hM.out _ Kr.out).mono ?_; rintro e' wma ⟨A8, c8, rfl, r8, ka⟩; have Kma : As (Kp [] w11 wma) := ⟨Kr.out.trans ka (by simp)⟩; have HSm := As.mk (HSM.out wma A8 c8 Kma.out r8); clear r8 ka)
            | (go_at_call 29; refine HSm.out.mono ?_; rintro e' wmb ⟨rfl, kb⟩; have Km : As (Kp [] w11 wmb) := ⟨Kma.out.trans kb (by simp)⟩; clear kb HSm)
            | (go_at_call 28; refine (known_any _).mono ?_; rintro e' w20 ⟨rfl, k20⟩; have KE := As.mk (HK11.out.trans (Km.out.trans k20 (by simp)) (by simp)); clear k20))
          go_ret
          exact ⟨rfl, KE.out.below⟩
        · have h3b : (mz != 0) = true := by simpa using h3
          go_wp2_with (go_at_call 28; refine (known_any _).mono ?_; rintro e' w20 ⟨rfl, k20⟩; have KE := As.mk (HK11.out.trans (Kr.out.trans k20 (by simp)) (by simp)); clear k20)
          go_ret
          exact ⟨rfl, KE.out.below⟩
      · have h2b : (rz == 0) = false := by simpa using h2
        go_upto_region 18 with fail
        by_cases h3 : mz = 0
        · have hM := As.mk (HEM.out h3)
          subst h3
          go_wp2_with (first
            | (go_at_call 35; refine (hM.out _ KA.out).mono ?_; rintro e' wma ⟨A8, c8, rfl, r8, ka⟩; have Kma : As (Kp [] w11 wma) := ⟨KA.out.trans ka (by simp)⟩; have HSm := As.mk (HSM.out wma A8 c8 Kma.out r8); clear r8 ka)
            | (go_at_call 29; refine HSm.out.mono ?_; rintro e' wmb ⟨rfl, kb⟩; have Km : As (Kp [] w11 wmb) := ⟨Kma.out.trans kb (by simp)⟩; clear kb HSm)
            | (go_at_call 28; refine (known_any _).mono ?_; rintro e' w20 ⟨rfl, k20⟩; have KE := As.mk (HK11.out.trans (Km.out.trans k20 (by simp)) (by simp)); clear k20))
          go_ret
          exact ⟨rfl, KE.out.below⟩
        · have h3b : (mz != 0) = true := by simpa using h3
          go_wp2_with (go_at_call 28; refine (known_any _).mono ?_; rintro e' w20 ⟨rfl, k20⟩; have KE := As.mk (HK11.out.trans (KA.out.trans k20 (by simp)) (by simp)); clear k20)
          go_ret
          exact ⟨rfl, KE.out.below⟩

theorem odec_row (w : World) (A : Option Addr) (n c : Nat) (xs : List Int) (hn : xs.length = n) (hr : Rd w A (iv .u8 xs)) (hc : n ≤ c) (hc9 : c ≤ 9223372036854775807) (hnil : A = none → c = 0) (hw : ∀ y ∈ xs, (Lit.int .u8 y).wf = true) (hz : n * 1 ≤ 140737488351232) :
    Calls Try.prog 12 #[.slice A n c] w fun e w' => e = .returned (.bool true) ∧ Below w.heap.size w w' :=
  odec_law w A n c xs hn hr hc hc9 hnil (fun y hy => wf_u8 (hw y hy)) (by omega)
end Go.Proofs.Ytlknlpiiogmfbaa.haystacklaw13
