/- The walk of OpOne: two ops have the same bytes just if they are one. -/
import Derived.Test.YtlknlpiiogmfbaaOpD
import Derived.Deep.RegionHeld3
namespace Go.Proofs.Ytlknlpiiogmfbaa.haystacklaw13
open Go.RowKit H O opk

set_option maxHeartbeats 8000000 in
set_option maxRecDepth 100000 in
theorem one_any (w : World) (k1 c1 s1 : Int) (key1 : ByteArray) (A : Option Addr) (n c : Nat) (x : List Int) (hn : x.length = n) (hr : Rd w A (iv .u8 x)) (hc : n ≤ c) (hnil : A = none → c = 0) (hb : n ≤ 140737488351232) (hk : key1.size ≤ 140737488351232)
    (k2 c2 s2 : Int) (key2 : ByteArray) (B : Option Addr) (m d : Nat) (y : List Int) (hm : y.length = m) (hr2 : Rd w B (iv .u8 y)) (hd : m ≤ d) (hnil2 : B = none → d = 0) (hb2 : m ≤ 140737488351232) (hk2 : key2.size ≤ 140737488351232) :
    Calls Try.prog 8 #[.agg #[.int .i64 k1, .int .i64 c1, .int .i64 s1, .string key1, .slice A n c], .agg #[.int .i64 k2, .int .i64 c2, .int .i64 s2, .string key2, .slice B m d]] w
      fun e w' => e = .returned (.bool true) ∧ Below w.heap.size w w' := by
  obtain ⟨l1, hl1⟩ : ∃ l, key1.size = l := ⟨_, rfl⟩
  obtain ⟨l2, hl2⟩ : ∃ l, key2.size = l := ⟨_, rfl⟩
  have hk' : l1 ≤ 140737488351232 := by omega
  have hk2' : l2 ≤ 140737488351232 := by omega
  clear hk hk2
  obtain ⟨w1, hw1⟩ : ∃ w1, w1 = (w.alloc (.cells #[.int .i64 k1, .int .i64 c1, .int .i64 s1, .string key1, .slice A n c] 47)).alloc (.cells #[.int .i64 k2, .int .i64 c2, .int .i64 s2, .string key2, .slice B m d] 47) := ⟨_, rfl⟩
  have k01 : Kp [] w w1 := by rw [hw1]; exact ((Kp.refl [] w).alloc _).alloc _
  have o1 : OpAt w1 w.heap.size k1 c1 s1 key1 A n c := by rw [hw1]; exact (OpAt.new w k1 c1 s1 key1 A n c).kp ((Kp.refl [] _).alloc _) (by simp)
  have o2 : OpAt w1 (w.heap.size + 1) k2 c2 s2 key2 B m d := by rw [hw1]; have := OpAt.new (w.alloc (.cells #[.int .i64 k1, .int .i64 c1, .int .i64 s1, .string key1, .slice A n c] 47)) k2 c2 s2 key2 B m d; simpa using this
  have HE1 : As (∀ wX, Kp [] w wX → Calls Try.prog 27 #[.agg #[.int .i64 k1, .int .i64 c1, .int .i64 s1, .string key1, .slice A n c]] wX (EncPost k1 c1 s1 key1 x wX)) :=
    ⟨fun wX k => encode_any k1 c1 s1 key1 A n c x wX hn (k.rd_new hr (by simp)) hc hnil (by omega)⟩
  have HE2 : As (∀ wX, Kp [] w wX → Calls Try.prog 27 #[.agg #[.int .i64 k2, .int .i64 c2, .int .i64 s2, .string key2, .slice B m d]] wX (EncPost k2 c2 s2 key2 y wX)) :=
    ⟨fun wX k => encode_any k2 c2 s2 key2 B m d y wX hm (k.rd_new hr2 (by simp)) hd hnil2 (by omega)⟩
  obtain ⟨d0, d1, d2, d3, d4⟩ := o1.cells
  obtain ⟨e0, e1, e2, e3, e4⟩ := o2.cells
  by_cases hbig : (l1 : Int) + n + l2 + m > 12000
  · have HK := As.mk k01
    clear o1 o2 HE1 HE2 k01 hr hr2 hnil hnil2 hn hm d0 d1 d2 d3 d4 e0 e1 e2 e3 e4
    go_enter Try.func8, Try.ntmps8
    go_wp2
    go_ret
    exact ⟨rfl, (((Kp.refl [] w).alloc _).alloc _).below⟩
  · have hlim : n ≤ 12000 ∧ m ≤ 12000 ∧ l1 ≤ 12000 ∧ l2 ≤ 12000 := by omega
    have HK := As.mk k01
    have HO1 := As.mk o1
    have HO2 := As.mk o2
    by_cases hz : opErr k1 c1 s1 key1.size x.length = 0 ∧ opErr k2 c2 s2 key2.size y.length = 0
    · obtain ⟨hz1, hz2⟩ := hz
      obtain ⟨X, hX⟩ : ∃ X, X = opBytes k1 c1 s1 key1 x := ⟨_, rfl⟩
      obtain ⟨Y, hY⟩ : ∃ Y, Y = opBytes k2 c2 s2 key2 y := ⟨_, rfl⟩
      obtain ⟨nx, hnx⟩ : ∃ nx, X.length = nx := ⟨_, rfl⟩
      obtain ⟨ny, hny⟩ : ∃ ny, Y.length = ny := ⟨_, rfl⟩
      obtain ⟨b, hb9⟩ : ∃ b, b = decide (X = Y) := ⟨_, rfl⟩
      have hb' : decide (k1 = k2 ∧ c1 = c2 ∧ s1 = s2 ∧ key1 = key2 ∧ x = y) = b := by
        rw [hb9, hX, hY]
        exact decide_eq_decide.2 (ob_inj hz1 hz2).symm
      have HEA := As.mk (encode_good k1 c1 s1 key1 A n c x w1 hn (k01.rd_new hr (by simp)) hc hnil hz1 X hX nx hnx)
      have HEB0 : As (∀ wX, Kp [] w wX → _) := ⟨fun wX k => encode_good k2 c2 s2 key2 B m d y wX hm (k.rd_new hr2 (by simp)) hd hnil2 hz2 Y hY ny hny⟩
      have HSM : As (∀ A3 c3 A4 c4 wX, Rd wX A3 (iv .u8 X) → Rd wX A4 (iv .u8 Y) → Calls Try.prog 29 #[.slice A3 nx c3, .slice A4 ny c4] wX fun e w' => e = .returned (.bool b) ∧ Kp [] wX w') := ⟨fun A3 c3 A4 c4 wX r3 r4 => by
        refine (same_any A3 A4 nx c3 ny c4 X Y wX hnx hny r3 r4 ?_).mono ?_
        · rw [hX, opBytes_eq]
          have h1 := ob_lim hz1
          have g1 := num_len k1
          have g2 := num_len c1
          have g3 := num_len s1
          have g4 := row_len (kb key1)
          have g5 := row_len x
          rw [kb_len] at g4
          simp only [List.length_append, List.length_nil]
          omega
        · rintro e w' ⟨rfl, n4, rfl⟩
          exact ⟨by rw [hb9], (Kp.refl [] _).drewN _⟩⟩
      have HOP : As (∀ wX, Kp [] w wX → Calls Try.prog 30 #[.agg #[.int .i64 k1, .int .i64 c1, .int .i64 s1, .string key1, .slice A n c], .agg #[.int .i64 k2, .int .i64 c2, .int .i64 s2, .string key2, .slice B m d]] wX fun e w' => e = .returned (.bool b) ∧ Kp [] wX w') := ⟨fun wX k => by
        refine (ops_any k1 c1 s1 key1 A n c x k2 c2 s2 key2 B m d y wX hn hm (k.rd_new hr (by simp)) (k.rd_new hr2 (by simp)) (by omega)).mono ?_
        rintro e w' ⟨rfl, hk⟩
        exact ⟨by rw [hb'], hk⟩⟩
      rw [hw1] at HEA
      clear o1 o2 k01 hr hr2 hnil hnil2 hn hm d0 d1 d2 d3 d4 e0 e1 e2 e3 e4 HE1 HE2 hz1 hz2 hX hY hnx hny hb9 hb'
      go_enter Try.func8, Try.ntmps8
      go_wp2_with (first
        | (go_at_call 27; refine HEB.out.mono ?_; rintro e w4 ⟨A4, c4, rfl, R4, K4, _, _, _⟩; have HK4 : As (Kp [] w1 w4) := ⟨k31.trans K4 (by simp)⟩; have HR4 := As.mk R4; have HR34 := As.mk (K4.rd HR3.out (fun _ _ => by simp)); clear K4 R4 HEB d0 d1 d2 d3 d4 HEB0 k31)
        | (go_at_call 27; refine HEA.out.mono ?_; rintro e w3 ⟨A3, c3, rfl, R3, K3, _, _, _⟩; have k31 : Kp [] w1 w3 := (by rw [hw1]; exact K3); have HEB := As.mk (HEB0.out w3 (HK.out.trans k31 (by simp))); have HR3 := As.mk R3; obtain ⟨d0, d1, d2, d3, d4⟩ := (HO2.out.kp k31 (by simp)).cells; clear K3 HEA R3))
      obtain ⟨w5, hw5⟩ : ∃ w5, w5 = w4.drew := ⟨_, rfl⟩
      have HS4 := As.mk (HSM.out A3 c3 A4 c4 w4.drew ((Kp.refl [] w4).drew.rd HR34.out (fun _ _ => by simp)) ((Kp.refl [] w4).drew.rd HR4.out (fun _ _ => by simp)))
      have hK5 : As (Kp [] w1 w4.drew) := ⟨HK4.out.drew⟩
      have HSS : As (∀ w', Kp [] w1 w' → ((w'.cell? ⟨w.heap.size, 0, none⟩ = some (.int .i64 k1) ∧ w'.cell? ⟨w.heap.size, 1, none⟩ = some (.int .i64 c1) ∧ w'.cell? ⟨w.heap.size, 2, none⟩ = some (.int .i64 s1) ∧ w'.cell? ⟨w.heap.size, 3, none⟩ = some (.string key1) ∧ w'.cell? ⟨w.heap.size, 4, none⟩ = some (.slice A n c)) ∧
        (w'.cell? ⟨w.heap.size + 1, 0, none⟩ = some (.int .i64 k2) ∧ w'.cell? ⟨w.heap.size + 1, 1, none⟩ = some (.int .i64 c2) ∧ w'.cell? ⟨w.heap.size + 1, 2, none⟩ = some (.int .i64 s2) ∧ w'.cell? ⟨w.heap.size + 1, 3, none⟩ = some (.string key2) ∧ w'.cell? ⟨w.heap.size + 1, 4, none⟩ = some (.slice B m d)))) :=
        ⟨fun w' k => ⟨(HO1.out.kp k (by simp)).cells, (HO2.out.kp k (by simp)).cells⟩⟩
      clear hw5
      go_region_held3 (fun w' => ((w'.cell? ⟨w.heap.size, 0, none⟩ = some (.int .i64 k1) ∧ w'.cell? ⟨w.heap.size, 1, none⟩ = some (.int .i64 c1) ∧ w'.cell? ⟨w.heap.size, 2, none⟩ = some (.int .i64 s1) ∧ w'.cell? ⟨w.heap.size, 3, none⟩ = some (.string key1) ∧ w'.cell? ⟨w.heap.size, 4, none⟩ = some (.slice A n c)) ∧
        (w'.cell? ⟨w.heap.size + 1, 0, none⟩ = some (.int .i64 k2) ∧ w'.cell? ⟨w.heap.size + 1, 1, none⟩ = some (.int .i64 c2) ∧ w'.cell? ⟨w.heap.size + 1, 2, none⟩ = some (.int .i64 s2) ∧ w'.cell? ⟨w.heap.size + 1, 3, none⟩ = some (.string key2) ∧ w'.cell? ⟨w.heap.size + 1, 4, none⟩ = some (.slice B m d))))
        (first | exact HSS.out _ K9.out | exact HSS.out _ K8.out | exact HSS.out _ K7.out | exact HSS.out _ hK5.out) (first
        | (go_at_call 28; refine (known_any _).mono ?_; rintro e w9 ⟨rfl, k9⟩; have K9 : As (Kp [] w1 w9) := ⟨K8.out.trans k9 (by simp)⟩; clear k9)
        | (go_at_call 30; refine (HOP.out _ (HK.out.trans K7.out (by simp))).mono ?_; rintro e w8 ⟨rfl, k8⟩; have K8 : As (Kp [] w1 w8) := ⟨K7.out.trans k8 (by simp)⟩; clear k8)
        | (go_at_call 29; refine HS4.out.mono ?_; rintro e w7 ⟨rfl, k7⟩; have K7 : As (Kp [] w1 w7) := ⟨hK5.out.trans k7 (by simp)⟩; clear k7))
      go_wp2
      go_ret
      exact ⟨rfl, (HK.out.trans K9.out (by simp)).below⟩
    · obtain ⟨z1, hz1⟩ : ∃ z, z = opErr k1 c1 s1 key1.size x.length := ⟨_, rfl⟩
      obtain ⟨z2, hz2⟩ : ∃ z, z = opErr k2 c2 s2 key2.size y.length := ⟨_, rfl⟩
      rw [← hz1, ← hz2] at hz
      have HEA : As (Calls Try.prog 27 #[.agg #[.int .i64 k1, .int .i64 c1, .int .i64 s1, .string key1, .slice A n c]] w1 fun e w' => ∃ v, e = .returned (.tuple #[v, .int .i64 z1]) ∧ Kp [] w1 w') := ⟨by
        refine (HE1.out w1 k01).mono ?_
        rintro e w' ⟨v, rfl, _, K⟩
        exact ⟨v, by rw [hz1], K⟩⟩
      have HEB0 : As (∀ wX, Kp [] w wX → Calls Try.prog 27 #[.agg #[.int .i64 k2, .int .i64 c2, .int .i64 s2, .string key2, .slice B m d]] wX fun e w' => ∃ v, e = .returned (.tuple #[v, .int .i64 z2]) ∧ Kp [] wX w') := ⟨fun wX k => by
        refine (HE2.out wX k).mono ?_
        rintro e w' ⟨v, rfl, _, K⟩
        exact ⟨v, by rw [hz2], K⟩⟩
      rw [hw1] at HEA
      clear o1 o2 k01 hr hr2 hnil hnil2 hn hm d0 d1 d2 d3 d4 e0 e1 e2 e3 e4 HE1 HE2 hz1 hz2
      by_cases hy1 : z1 = 0
      · have hy2 : (z2 != 0) = true := by simp; omega
        subst hy1
        clear hz
        go_enter Try.func8, Try.ntmps8
        go_wp2_with (first
          | (go_at_call 28; refine (known_any _).mono ?_; rintro e w9 ⟨rfl, k9⟩; have K9 : As (Kp [] w1 w9) := ⟨HK4.out.trans k9 (by simp)⟩; clear k9)
          | (go_at_call 27; refine HEB.out.mono ?_; rintro e w4 ⟨v4, rfl, K4⟩; have HK4 : As (Kp [] w1 w4) := ⟨k31.trans K4 (by simp)⟩; clear K4 HEB d0 d1 d2 d3 d4 HEB0 k31)
          | (go_at_call 27; refine HEA.out.mono ?_; rintro e w3 ⟨v3, rfl, K3⟩; have k31 : Kp [] w1 w3 := (by rw [hw1]; exact K3); have HEB := As.mk (HEB0.out w3 (HK.out.trans k31 (by simp))); obtain ⟨d0, d1, d2, d3, d4⟩ := (HO2.out.kp k31 (by simp)).cells; clear K3 HEA))
        go_ret
        exact ⟨rfl, (HK.out.trans K9.out (by simp)).below⟩
      · have hy2 : (z1 != 0) = true := by simp; omega
        clear hz
        go_enter Try.func8, Try.ntmps8
        go_wp2_with (first
          | (go_at_call 28; refine (known_any _).mono ?_; rintro e w9 ⟨rfl, k9⟩; have K9 : As (Kp [] w1 w9) := ⟨HK4.out.trans k9 (by simp)⟩; clear k9)
          | (go_at_call 27; refine HEB.out.mono ?_; rintro e w4 ⟨v4, rfl, K4⟩; have HK4 : As (Kp [] w1 w4) := ⟨k31.trans K4 (by simp)⟩; clear K4 HEB d0 d1 d2 d3 d4 HEB0 k31)
          | (go_at_call 27; refine HEA.out.mono ?_; rintro e w3 ⟨v3, rfl, K3⟩; have k31 : Kp [] w1 w3 := (by rw [hw1]; exact K3); have HEB := As.mk (HEB0.out w3 (HK.out.trans k31 (by simp))); obtain ⟨d0, d1, d2, d3, d4⟩ := (HO2.out.kp k31 (by simp)).cells; clear K3 HEA))
        go_ret
        exact ⟨rfl, (HK.out.trans K9.out (by simp)).below⟩

theorem one_row (w : World) (k1 c1 s1 : Int) (key1 : ByteArray) (A : Option Addr) (n c : Nat) (x : List Int) (_ : (Lit.int .i64 k1).wf = true) (_ : (Lit.int .i64 c1).wf = true) (_ : (Lit.int .i64 s1).wf = true)
    (hn : x.length = n) (hr : Rd w A (iv .u8 x)) (hc : n ≤ c) (_ : c ≤ 9223372036854775807) (hnil : A = none → c = 0) (_ : ∀ y ∈ x, (Lit.int .u8 y).wf = true) (hk : key1.size ≤ 140737488351232) (hb : n ≤ 140737488351232)
    (k2 c2 s2 : Int) (key2 : ByteArray) (B : Option Addr) (m d : Nat) (y : List Int) (_ : (Lit.int .i64 k2).wf = true) (_ : (Lit.int .i64 c2).wf = true) (_ : (Lit.int .i64 s2).wf = true)
    (hm : y.length = m) (hr2 : Rd w B (iv .u8 y)) (hd : m ≤ d) (_ : d ≤ 9223372036854775807) (hnil2 : B = none → d = 0) (_ : ∀ z ∈ y, (Lit.int .u8 z).wf = true) (hk2 : key2.size ≤ 140737488351232) (hb2 : m ≤ 140737488351232) :
    Calls Try.prog 8 #[.agg #[.int .i64 k1, .int .i64 c1, .int .i64 s1, .string key1, .slice A n c], .agg #[.int .i64 k2, .int .i64 c2, .int .i64 s2, .string key2, .slice B m d]] w
      fun e w' => e = .returned (.bool true) ∧ Below w.heap.size w w' :=
  one_any w k1 c1 s1 key1 A n c x hn hr hc hnil hb hk k2 c2 s2 key2 B m d y hm hr2 hd hnil2 hb2 hk2

end Go.Proofs.Ytlknlpiiogmfbaa.haystacklaw13
