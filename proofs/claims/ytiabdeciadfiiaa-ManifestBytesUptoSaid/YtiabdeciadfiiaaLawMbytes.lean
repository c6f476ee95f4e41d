/- The walk of ManifestBytes: a map as bytes, and back; any bytes as a map, or refused. -/
import Derived.Test.YtiabdeciadfiiaaManW
import Derived.Test.YtiabdeciadfiiaaBase
namespace Go.Proofs.Ytiabdeciadfiiaa.haystacklaw21
open Go.RowKit H O opk man

/-- bytes decoded: what a reader of the result needs -/
def DecRd (xs : List Int) (m : Nat) (w : World) (e : Ending) (w' : World) : Prop :=
  ∃ A c, e = .returned (.tuple #[.agg #[.int .i64 ((mDec xs).1 : Int), .slice A m c], .int .i64 (mDec xs).2.2]) ∧ Ri [] w' A (mDec xs).2.1 ∧ Kp [] w w'
theorem DecPost.rdr {xs : List Int} {m : Nat} {w w' : World} {e : Ending} (h : DecPost xs w e w') (hm : (mDec xs).2.1.length = m) : DecRd xs m w e w' := by
  obtain ⟨A, c, he, o, k⟩ := h
  rw [hm] at he o
  exact ⟨A, c, he, o.ri (by simp), k⟩

set_option maxHeartbeats 8000000 in
set_option maxRecDepth 100000 in
theorem mbytes_law (w : World) (v : Int) (A : Option Addr) (n c : Nat) (l : List (List Int)) (B : Option Addr) (m d : Nat) (xs : List Int) (hn : l.length = n) (hr : Ri [] w A l) (hg : gSize l ≤ 2097152)
    (hm : xs.length = m) (hs : Rd w B (iv .u8 xs)) (hc : m ≤ d) (hd : d ≤ 9223372036854775807) (hnil : B = none → d = 0) (hw : Wf xs) (hb : m ≤ 140737488351232) :
    Calls Try.prog 4 #[.int .i64 v, .slice A n c, .slice B m d] w fun e w' => e = .returned (.bool true) ∧ Below w.heap.size w w' := by
  have hA : (∀ a, B = some a → a.block < w.heap.size) ∨ m = 0 := by
    by_cases h0 : m = 0
    · exact .inr h0
    · left
      intro a ha
      obtain ⟨a', ha', h⟩ := hs.lt (by rw [iv_len]; omega)
      rw [ha] at ha'
      cases ha'
      exact h
  have HN := As.mk hn
  have HR := As.mk hr
  have HG := As.mk hg
  have HM := As.mk hm
  have HS := As.mk hs
  have HNL := As.mk hnil
  have HW := As.mk hw
  have HA := As.mk hA
  have hn9 : n ≤ 2097152 := by have := gSize_len l; omega
  clear hn hr hg hm hs hnil hw hA
  go_enter Try.func4, Try.ntmps4
  go_wp2
  go_loop [7, 8] (fun s i => ∃ k t : Nat, s = .int .i64 (t : Int) ∧ i = .int .i64 (k : Int) ∧ k ≤ n ∧ As (t = gSize (l.take k)) ∧ t ≤ 2097152) (fun _ i => n - (intOf i).toNat)
  case atStart => exact ⟨0, 0, rfl, rfl, by omega, ⟨by simp [gSize]⟩, by omega⟩
  case round =>
    obtain ⟨k, t, rfl, rfl, hk, HT, ht⟩ := hrel
    by_cases hlt : k < n
    · have hlt' : k < l.length := by rw [HN.out]; exact hlt
      obtain ⟨a, Aj, cj, rfl, -, d0, -, -, -⟩ := HR.out k hlt'
      obtain ⟨q, hq⟩ : ∃ q, l[k].length = q := ⟨_, rfl⟩
      rw [hq] at d0
      have hst := gSize_step l k hlt'
      rw [← HT.out, hq] at hst
      have htk := gSize_take l (k + 1)
      rw [hst] at htk
      have hnx : t + 1 + q ≤ 2097152 := Nat.le_trans htk HG.out
      have HNX : As (t + 1 + q = gSize (l.take (k + 1))) := ⟨hst.symm⟩
      clear hq hst htk hlt'
      go_wp2
      go_round
      case rel => exact ⟨k + 1, t + 1 + q, by go_num, by go_num, by omega, HNX, hnx⟩
      case measure => simp [intOf]; omega
    · obtain rfl : k = n := by omega
      have htk : l.take k = l := List.take_of_length_le (by rw [HN.out]; exact Nat.le_refl _)
      rw [htk] at HT
      clear htk
      by_cases h5 : 500 < t
      · go_wp2
        go_ret
        exact ⟨rfl, Below.refl _ _⟩
      · by_cases h3 : 3000 < m
        · go_wp2
          go_ret
          exact ⟨rfl, Below.refl _ _⟩
        · have hg5 : gSize l ≤ 500 := by rw [← HT.out]; omega
          have HG5 := As.mk hg5
          obtain ⟨Y, hY⟩ : ∃ Y, Y = mapB v l := ⟨_, rfl⟩
          obtain ⟨ny, hny⟩ : ∃ ny, Y.length = ny := ⟨_, rfl⟩
          have hny9 : ny ≤ 5000 := by have h1 := gridB_len l; have h2 := num_len v; rw [← hny, hY, mapB, List.length_append]; omega
          have wY : Wf Y := by rw [hY]; intro x hx; rcases List.mem_append.1 hx with h | h; exact num_u8 _ x h; exact gridB_wf _ x h
          obtain ⟨m1, hm1⟩ : ∃ q, (mDec xs).2.1.length = q := ⟨_, rfl⟩
          obtain ⟨m2, hm2⟩ : ∃ q, (mDec Y).2.1.length = q := ⟨_, rfl⟩
          obtain ⟨v1, hv1⟩ : ∃ q, (mDec xs).1 = q := ⟨_, rfl⟩
          obtain ⟨v2, hv2⟩ : ∃ q, (mDec Y).1 = q := ⟨_, rfl⟩
          obtain ⟨z1, hz1⟩ : ∃ q, (mDec xs).2.2 = q := ⟨_, rfl⟩
          obtain ⟨z2, hz2⟩ : ∃ q, (mDec Y).2.2 = q := ⟨_, rfl⟩
          obtain ⟨ok1, _⟩ := mDec_ok HW.out
          obtain ⟨ok2, _⟩ := mDec_ok wY
          have HRO : As (Calls Try.prog 17 #[.slice B m d] w fun e w1 => ∃ A1 c1, e = .returned (.slice A1 (m + 1) c1) ∧ m + 1 ≤ c1 ∧ (A1 = none → c1 = 0) ∧ Rd w1 A1 (iv .u8 (xs ++ [171])) ∧ Kp [] w w1) := ⟨by
            refine (roomy_any B m d xs w HM.out HS.out HNL.out (by rw [HM.out]; omega)).mono ?_
            rintro e w1 ⟨v, rfl, o, k⟩
            obtain ⟨A1, c1, rfl, h1, _, r1, n1⟩ := own_rd o.1
            have hl : (xs ++ [171]).length = m + 1 := by rw [List.length_append, HM.out]; rfl
            rw [hl] at h1 ⊢
            exact ⟨A1, c1, rfl, h1, n1, r1, k⟩⟩
          have HSL : As (∀ A1 c1, m + 1 ≤ c1 → (A1 = none → c1 = 0) → ∀ W, (Instr.slice 26 (.slice A1 (m + 1) c1) none (some (.int .i64 (m : Int))) none).run Try.prog W = .ok (.slice A1 m c1) W) := ⟨fun A1 c1 h1 h2 => slice_head ht8 hz8 A1 (m + 1) c1 m (by omega) h2⟩
          have HD1 : As (∀ wX A1 c1, Rd wX A1 (iv .u8 (xs ++ [171])) → (A1 = none → c1 = 0) → Calls Try.prog 18 #[.slice A1 m c1] wX fun e w' => ∃ A2 c2, e = .returned (.tuple #[.agg #[.int .i64 (v1 : Int), .slice A2 m1 c2], .int .i64 z1]) ∧ Ri [] w' A2 (mDec xs).2.1 ∧ Kp [] wX w') := ⟨fun wX A1 c1 r n => by
            rw [iv_app] at r
            have h9 := (man.decode_any A1 m c1 xs wX HM.out r.app n (by omega) HW.out).mono (fun e w' h => DecPost.rdr h hm1)
            unfold DecRd at h9
            rw [hv1, hz1] at h9
            exact h9⟩
          have HD2 : As (∀ wX, Kp [] w wX → Calls Try.prog 19 #[.slice B m d] wX fun e w' => ∃ A2 c2, e = .returned (.tuple #[.agg #[.int .i64 (v1 : Int), .slice A2 m1 c2], .int .i64 z1]) ∧ Ri [] w' A2 (mDec xs).2.1 ∧ Kp [] wX w') := ⟨fun wX kX => by
            have h9 := (mref.decode_any B m d xs wX HM.out (kX.rd_new HS.out (by simp)) hc hd HNL.out (HA.out.imp (fun h a ha => Nat.lt_of_lt_of_le (h a ha) kX.size) id) (by omega) HW.out).mono (fun e w' h => DecPost.rdr h hm1)
            unfold DecRd at h9
            rw [hv1, hz1] at h9
            exact h9⟩
          have HE1 : As (∀ wX A2 c2, z1 = 0 → Ri [] wX A2 (mDec xs).2.1 → Calls Try.prog 22 #[.agg #[.int .i64 (v1 : Int), .slice A2 m1 c2]] wX fun e w' => ∃ A3 c3, e = .returned (.slice A3 m c3) ∧ Rd w' A3 (iv .u8 xs) ∧ Kp [] wX w') := ⟨fun wX A2 c2 hz r => by
            refine (man.encode_any (v1 : Int) A2 m1 c2 (mDec xs).2.1 wX hm1 r (gSize_ok ok1)).mono ?_
            rintro e w' ⟨v, rfl, o, k⟩
            rw [← hv1, mapB_dec HW.out (by rw [hz1]; exact hz)] at o
            obtain ⟨A3, c3, rfl, _, _, r3, _⟩ := own_rd o.1
            rw [HM.out]
            exact ⟨A3, c3, rfl, r3, k⟩⟩
          have HMA1 : As (∀ wX A2 c2 A3 c3, Ri [] wX A2 (mDec xs).2.1 → Ri [] wX A3 (mDec xs).2.1 → Calls Try.prog 20 #[.agg #[.int .i64 (v1 : Int), .slice A2 m1 c2], .agg #[.int .i64 (v1 : Int), .slice A3 m1 c3]] wX fun e w' => e = .returned (.bool true) ∧ Kp [] wX w') := ⟨fun wX A2 c2 A3 c3 r2 r3 =>
            maps_any (v1 : Int) A2 A3 m1 c2 c3 (mDec xs).2.1 wX hm1 r2 r3 (by have := ok1.2.1; omega) (fun x hx => by have := ok1.2.2.1 x hx; omega)⟩
          have HMA2 : As (∀ wX A2 c2 A3 c3, Ri [] wX A2 (mDec Y).2.1 → Ri [] wX A3 (mDec Y).2.1 → Calls Try.prog 20 #[.agg #[.int .i64 (v2 : Int), .slice A2 m2 c2], .agg #[.int .i64 (v2 : Int), .slice A3 m2 c3]] wX fun e w' => e = .returned (.bool true) ∧ Kp [] wX w') := ⟨fun wX A2 c2 A3 c3 r2 r3 =>
            maps_any (v2 : Int) A2 A3 m2 c2 c3 (mDec Y).2.1 wX hm2 r2 r3 (by have := ok2.2.1; omega) (fun x hx => by have := ok2.2.2.1 x hx; omega)⟩
          have HST : As (∀ wX A1 c1, m + 1 ≤ c1 → Rd wX A1 (iv .u8 (xs ++ [171])) → Rd wX B (iv .u8 xs) → Calls Try.prog 21 #[.slice A1 (m + 1) c1, .slice B m d] wX fun e w' => e = .returned (.bool true) ∧ Kp [] wX w') := ⟨fun wX A1 c1 h1 r1 r2 => by
            refine (stands_any A1 B (m + 1) c1 m d (xs ++ [171]) xs wX (by rw [List.length_append, HM.out]; rfl) HM.out r1 r2 h1 (by rw [List.length_append, HM.out]; simp; omega) (by rw [HM.out]; omega)).mono ?_
            rintro e w' ⟨rfl, q, rfl⟩
            exact ⟨by rw [decide_eq_true rfl], (Kp.refl [] wX).drewN q⟩⟩
          have HSM : As (∀ (zs : List Int) (nz : Nat) wX A1 c1 A2 c2, zs.length = nz → nz ≤ 10000 → Rd wX A1 (iv .u8 zs) → Rd wX A2 (iv .u8 zs) → Calls Try.prog 11 #[.slice A1 nz c1, .slice A2 nz c2] wX fun e w' => e = .returned (.bool true) ∧ Kp [] wX w') := ⟨fun zs nz wX A1 c1 A2 c2 hz hl r1 r2 => by
            refine (same_any A1 A2 nz c1 nz c2 zs zs wX hz hz r1 r2 (by omega)).mono ?_
            rintro e w' ⟨rfl, q, rfl⟩
            exact ⟨by rw [decide_eq_true rfl], (Kp.refl [] wX).drewN q⟩⟩
          have HEN : As (∀ wX, Kp [] w wX → Calls Try.prog 22 #[.agg #[.int .i64 v, .slice A k c]] wX fun e w' => ∃ A3 c3, e = .returned (.slice A3 ny c3) ∧ ny ≤ c3 ∧ c3 ≤ 9223372036854775807 ∧ (A3 = none → c3 = 0) ∧ (∀ a, A3 = some a → a.block < w'.heap.size) ∧ Rd w' A3 (iv .u8 Y) ∧ Kp [] wX w') := ⟨fun wX kX => by
            refine (man.encode_any v A k c l wX HN.out (HR.out.kp kX (by simp) (by simp)) (by have := HG5.out; omega)).mono ?_
            rintro e w' ⟨u, rfl, o, kk⟩
            rw [← hY] at o
            obtain ⟨A3, c3, hv, h1, h2, r3, n3⟩ := own_rd o.1
            rw [hny] at hv h1
            subst hv
            exact ⟨A3, c3, rfl, h1, h2, n3, fun a ha => own_lt o.1 a.block (by rw [ha]; rfl), r3, kk⟩⟩
          have HEM : As (∀ wX, Kp [] w wX → Calls Try.prog 23 #[.agg #[.int .i64 v, .slice A k c]] wX fun e w' => ∃ A3 c3, e = .returned (.slice A3 ny c3) ∧ Rd w' A3 (iv .u8 Y) ∧ Kp [] wX w') := ⟨fun wX kX => by
            refine (mref.encode_any v A k c l wX HN.out (HR.out.kp kX (by simp) (by simp)) (by have := HG5.out; omega)).mono ?_
            rintro e w' ⟨u, rfl, o, kk⟩
            rw [← hY] at o
            obtain ⟨A3, c3, hv, h1, h2, r3, n3⟩ := own_rd o.1
            rw [hny] at hv
            subst hv
            exact ⟨A3, c3, rfl, r3, kk⟩⟩
          have HD3 : As (∀ wX A1 c1, Rd wX A1 (iv .u8 Y) → (A1 = none → c1 = 0) → Calls Try.prog 18 #[.slice A1 ny c1] wX fun e w' => ∃ A2 c2, e = .returned (.tuple #[.agg #[.int .i64 (v2 : Int), .slice A2 m2 c2], .int .i64 z2]) ∧ Ri [] w' A2 (mDec Y).2.1 ∧ Kp [] wX w') := ⟨fun wX A1 c1 r n => by
            have h9 := (man.decode_any A1 ny c1 Y wX hny r n (by omega) wY).mono (fun e w' h => DecPost.rdr h hm2)
            unfold DecRd at h9
            rw [hv2, hz2] at h9
            exact h9⟩
          have HD4 : As (∀ wX A1 c1, Rd wX A1 (iv .u8 Y) → ny ≤ c1 → c1 ≤ 9223372036854775807 → (A1 = none → c1 = 0) → (∀ a, A1 = some a → a.block < wX.heap.size) → Calls Try.prog 19 #[.slice A1 ny c1] wX fun e w' => ∃ A2 c2, e = .returned (.tuple #[.agg #[.int .i64 (v2 : Int), .slice A2 m2 c2], .int .i64 z2]) ∧ Ri [] w' A2 (mDec Y).2.1 ∧ Kp [] wX w') := ⟨fun wX A1 c1 r h1 h2 n ha => by
            have h9 := (mref.decode_any A1 ny c1 Y wX hny r h1 h2 n (.inl ha) (by omega) wY).mono (fun e w' h => DecPost.rdr h hm2)
            unfold DecRd at h9
            rw [hv2, hz2] at h9
            exact h9⟩
          have HNY := As.mk hny
          clear hg5 hY hny wY hm1 hm2 hv1 hv2 hz1 hz2 ok1 ok2 HT
          by_cases hz : z1 = 0
          · subst hz
            go_wp2_with (first
              | (go_at_call 17; refine HRO.out.mono ?_; rintro e wa ⟨A1, c1, rfl, g1, n1, r1, k1⟩; have HR1 := As.mk r1; have HK1 := As.mk k1; have HG1 := As.mk g1; have hsl := HSL.out A1 c1 g1 n1; have HDA := As.mk (HD1.out wa A1 c1 r1 n1); clear r1 k1 n1 g1 HRO)
              | (go_at_call 18; refine HDA.out.mono ?_; rintro e wb ⟨A2, c2, rfl, r2, k2⟩; have HR2 := As.mk r2; have HK2 : As (Kp [] w wb) := ⟨HK1.out.trans k2 (by simp)⟩; have HR12 := As.mk (k2.rd HR1.out (fun _ _ => by simp)); have HDB := As.mk (HD2.out (wb.alloc (.cells #[.int .i64 (v1 : Int), .slice A2 m1 c2] 36)) (HK2.out.alloc _)); have hbs : wb.heap.size < (wb.alloc (.cells #[.int .i64 (v1 : Int), .slice A2 m1 c2] 36)).heap.size := (by simp); clear r2 k2 HDA)
              | (go_at_call 19; refine HDB.out.mono ?_; rintro e wc ⟨A3, c3, rfl, r3, k3⟩; have HR3 := As.mk r3; have k3' : Kp [] wb wc := ((Kp.refl [] wb).alloc _).trans k3 (by simp); have HK23 := As.mk k3'; have mA := (man.MapAt.new wb (v1 : Int) (.slice A2 m1 c2)).kp k3 (by simp); obtain ⟨qa0, qa1⟩ := mA.cells; have hbc : wb.heap.size < wc.heap.size := lt_of_block mA; have dbc : ¬ wb.heap.size = wc.heap.size := (by omega); have HMM := As.mk (HMA1.out (wc.alloc (.cells #[.int .i64 (v1 : Int), .slice A3 m1 c3] 44)) A2 c2 A3 c3 (HR2.out.kp (k3'.alloc _) (by simp) (by simp)) (r3.kp ((Kp.refl [] wc).alloc _) (by simp) (by simp))); have HK3 : As (Kp [] w wc) := ⟨HK2.out.trans k3' (by simp)⟩; have HMA := As.mk mA; clear r3 k3 k3' mA HDB)
              | (go_at_call 20; refine HMM.out.mono ?_; rintro e wd ⟨rfl, k4⟩; have k4' : Kp [] wc wd := ((Kp.refl [] wc).alloc _).trans k4 (by simp); have HK4 : As (Kp [] w wd) := ⟨HK3.out.trans k4' (by simp)⟩; have HK24 : As (Kp [] wb wd) := ⟨HK23.out.trans k4' (by simp)⟩; obtain ⟨qb0, qb1⟩ := (HMA.out.kp k4' (by simp)).cells; have HSD := As.mk (HST.out wd A1 c1 HG1.out (HK24.out.rd HR12.out (fun _ _ => by simp)) (HK4.out.rd HS.out (fun _ _ => by simp))); have HMD := As.mk (HMA.out.kp k4' (by simp)); clear k4 k4' HMM)
              | (go_at_call 21; refine HSD.out.mono ?_; rintro e we ⟨rfl, k5⟩; have HK5 : As (Kp [] w we) := ⟨HK4.out.trans k5 (by simp)⟩; obtain ⟨qc0, qc1⟩ := (HMD.out.kp k5 (by simp)).cells; have HEE := As.mk (HE1.out we A2 c2 (by first | trivial | rfl) (HR2.out.kp (HK24.out.trans k5 (by simp)) (by simp) (by simp))); clear k5 HSD)
              | (go_at_call 22; refine HEE.out.mono ?_; rintro e wf ⟨A6, c6, rfl, r6, k6⟩; have HK6 : As (Kp [] w wf) := ⟨HK5.out.trans k6 (by simp)⟩; have HSS := As.mk (HSM.out xs m wf A6 c6 B d HM.out (by omega) r6 (HK6.out.rd HS.out (fun _ _ => by simp))); clear r6 k6 HEE)
              | (go_at_call 11; refine HSS.out.mono ?_; rintro e wg ⟨rfl, k7⟩; have HK7 : As (Kp [] w wg) := ⟨HK6.out.trans k7 (by simp)⟩; have HEX := As.mk (HEN.out wg HK7.out); clear k7 HSS)
              | (go_at_call 22; refine HEX.out.mono ?_; rintro e wh ⟨A8, c8, rfl, g8, x8, n8, b8, r8, k8⟩; have HK8 : As (Kp [] w wh) := ⟨HK7.out.trans k8 (by simp)⟩; have HG8 := As.mk g8; have HX8 := As.mk x8; have HN8 := As.mk n8; have HB8 := As.mk b8; have HR8 := As.mk r8; have HEY := As.mk (HEM.out wh HK8.out); clear g8 x8 n8 b8 r8 k8 HEX)
              | (go_at_call 23; refine HEY.out.mono ?_; rintro e wi ⟨A9, c9, rfl, r9, k9⟩; have HK9 : As (Kp [] wh wi) := ⟨k9⟩; have HST2 := As.mk (HSM.out Y ny wi A8 c8 A9 c9 HNY.out (by omega) (k9.rd HR8.out (fun _ _ => by simp)) r9); clear r9 k9 HEY)
              | (go_at_call 11; refine HST2.out.mono ?_; rintro e wj ⟨rfl, k10⟩; have HK10 : As (Kp [] wh wj) := ⟨HK9.out.trans k10 (by simp)⟩; have HDX := As.mk (HD3.out wj A8 c8 (HK10.out.rd HR8.out (fun _ _ => by simp)) HN8.out); clear k10 HST2)
              | (go_at_call 18; refine HDX.out.mono ?_; rintro e wk ⟨AA, ca, rfl, ra, ka⟩; have HRA := As.mk ra; have HKA : As (Kp [] wh wk) := ⟨HK10.out.trans ka (by simp)⟩; have kA2 := HKA.out.alloc (.cells #[.int .i64 (v2 : Int), .slice AA m2 ca] 36); have HDY := As.mk (HD4.out (wk.alloc (.cells #[.int .i64 (v2 : Int), .slice AA m2 ca] 36)) A8 c8 (kA2.rd HR8.out (fun _ _ => by simp)) HG8.out HX8.out HN8.out (fun a ha => Nat.lt_of_lt_of_le (HB8.out a ha) kA2.size)); clear ra ka kA2 HDX)
              | (go_at_call 19; refine HDY.out.mono ?_; rintro e wl ⟨AB, cb, rfl, rb, kb⟩; have kb' : Kp [] wk wl := ((Kp.refl [] wk).alloc _).trans kb (by simp); have mB := (man.MapAt.new wk (v2 : Int) (.slice AA m2 ca)).kp kb (by simp); obtain ⟨qd0, qd1⟩ := mB.cells; have hkl : wk.heap.size < wl.heap.size := lt_of_block mB; have dkl : ¬ wk.heap.size = wl.heap.size := (by omega); have HMZ := As.mk (HMA2.out (wl.alloc (.cells #[.int .i64 (v2 : Int), .slice AB m2 cb] 44)) AA ca AB cb (HRA.out.kp (kb'.alloc _) (by simp) (by simp)) (rb.kp ((Kp.refl [] wl).alloc _) (by simp) (by simp))); have HKB : As (Kp [] w wl) := ⟨(HK8.out.trans HKA.out (by simp)).trans kb' (by simp)⟩; clear rb kb kb' mB HDY)
              | (go_at_call 20; refine HMZ.out.mono ?_; rintro e wm ⟨rfl, kc⟩; have HKC : As (Kp [] w wm) := ⟨(HKB.out.alloc _).trans kc (by simp)⟩; clear kc HMZ)
              | (go_at_call 8; refine (known_any _).mono ?_; rintro e wn ⟨rfl, kd⟩; have HKD : As (Kp [] w wn) := ⟨HKC.out.trans kd (by simp)⟩; clear kd))
            go_ret
            exact ⟨rfl, HKD.out.below⟩
          · have bz : (z1 == 0) = false := by simpa using hz
            clear hz
            go_wp2_with (first
              | (go_at_call 17; refine HRO.out.mono ?_; rintro e wa ⟨A1, c1, rfl, g1, n1, r1, k1⟩; have HR1 := As.mk r1; have HK1 := As.mk k1; have HG1 := As.mk g1; have hsl := HSL.out A1 c1 g1 n1; have HDA := As.mk (HD1.out wa A1 c1 r1 n1); clear r1 k1 n1 g1 HRO)
              | (go_at_call 18; refine HDA.out.mono ?_; rintro e wb ⟨A2, c2, rfl, r2, k2⟩; have HR2 := As.mk r2; have HK2 : As (Kp [] w wb) := ⟨HK1.out.trans k2 (by simp)⟩; have HR12 := As.mk (k2.rd HR1.out (fun _ _ => by simp)); have HDB := As.mk (HD2.out (wb.alloc (.cells #[.int .i64 (v1 : Int), .slice A2 m1 c2] 36)) (HK2.out.alloc _)); have hbs : wb.heap.size < (wb.alloc (.cells #[.int .i64 (v1 : Int), .slice A2 m1 c2] 36)).heap.size := (by simp); clear r2 k2 HDA)
              | (go_at_call 19; refine HDB.out.mono ?_; rintro e wc ⟨A3, c3, rfl, r3, k3⟩; have HR3 := As.mk r3; have k3' : Kp [] wb wc := ((Kp.refl [] wb).alloc _).trans k3 (by simp); have HK23 := As.mk k3'; have mA := (man.MapAt.new wb (v1 : Int) (.slice A2 m1 c2)).kp k3 (by simp); obtain ⟨qa0, qa1⟩ := mA.cells; have hbc : wb.heap.size < wc.heap.size := lt_of_block mA; have dbc : ¬ wb.heap.size = wc.heap.size := (by omega); have HMM := As.mk (HMA1.out (wc.alloc (.cells #[.int .i64 (v1 : Int), .slice A3 m1 c3] 44)) A2 c2 A3 c3 (HR2.out.kp (k3'.alloc _) (by simp) (by simp)) (r3.kp ((Kp.refl [] wc).alloc _) (by simp) (by simp))); have HK3 : As (Kp [] w wc) := ⟨HK2.out.trans k3' (by simp)⟩; have HMA := As.mk mA; clear r3 k3 k3' mA HDB)
              | (go_at_call 20; refine HMM.out.mono ?_; rintro e wd ⟨rfl, k4⟩; have k4' : Kp [] wc wd := ((Kp.refl [] wc).alloc _).trans k4 (by simp); have HK4 : As (Kp [] w wd) := ⟨HK3.out.trans k4' (by simp)⟩; have HK24 : As (Kp [] wb wd) := ⟨HK23.out.trans k4' (by simp)⟩; obtain ⟨qb0, qb1⟩ := (HMA.out.kp k4' (by simp)).cells; have HSD := As.mk (HST.out wd A1 c1 HG1.out (HK24.out.rd HR12.out (fun _ _ => by simp)) (HK4.out.rd HS.out (fun _ _ => by simp))); have HMD := As.mk (HMA.out.kp k4' (by simp)); clear k4 k4' HMM)
              | (go_at_call 21; refine HSD.out.mono ?_; rintro e we ⟨rfl, k5⟩; have HK5 : As (Kp [] w we) := ⟨HK4.out.trans k5 (by simp)⟩; obtain ⟨qc0, qc1⟩ := (HMD.out.kp k5 (by simp)).cells; have HEX := As.mk (HEN.out we HK5.out); clear k5 HSD)
              | (go_at_call 22; refine HEX.out.mono ?_; rintro e wh ⟨A8, c8, rfl, g8, x8, n8, b8, r8, k8⟩; have HK8 : As (Kp [] w wh) := ⟨HK5.out.trans k8 (by simp)⟩; have HG8 := As.mk g8; have HX8 := As.mk x8; have HN8 := As.mk n8; have HB8 := As.mk b8; have HR8 := As.mk r8; have HEY := As.mk (HEM.out wh HK8.out); clear g8 x8 n8 b8 r8 k8 HEX)
              | (go_at_call 23; refine HEY.out.mono ?_; rintro e wi ⟨A9, c9, rfl, r9, k9⟩; have HK9 : As (Kp [] wh wi) := ⟨k9⟩; have HST2 := As.mk (HSM.out Y ny wi A8 c8 A9 c9 HNY.out (by omega) (k9.rd HR8.out (fun _ _ => by simp)) r9); clear r9 k9 HEY)
              | (go_at_call 11; refine HST2.out.mono ?_; rintro e wj ⟨rfl, k10⟩; have HK10 : As (Kp [] wh wj) := ⟨HK9.out.trans k10 (by simp)⟩; have HDX := As.mk (HD3.out wj A8 c8 (HK10.out.rd HR8.out (fun _ _ => by simp)) HN8.out); clear k10 HST2)
              | (go_at_call 18; refine HDX.out.mono ?_; rintro e wk ⟨AA, ca, rfl, ra, ka⟩; have HRA := As.mk ra; have HKA : As (Kp [] wh wk) := ⟨HK10.out.trans ka (by simp)⟩; have kA2 := HKA.out.alloc (.cells #[.int .i64 (v2 : Int), .slice AA m2 ca] 36); have HDY := As.mk (HD4.out (wk.alloc (.cells #[.int .i64 (v2 : Int), .slice AA m2 ca] 36)) A8 c8 (kA2.rd HR8.out (fun _ _ => by simp)) HG8.out HX8.out HN8.out (fun a ha => Nat.lt_of_lt_of_le (HB8.out a ha) kA2.size)); clear ra ka kA2 HDX)
              | (go_at_call 19; refine HDY.out.mono ?_; rintro e wl ⟨AB, cb, rfl, rb, kb⟩; have kb' : Kp [] wk wl := ((Kp.refl [] wk).alloc _).trans kb (by simp); have mB := (man.MapAt.new wk (v2 : Int) (.slice AA m2 ca)).kp kb (by simp); obtain ⟨qd0, qd1⟩ := mB.cells; have hkl : wk.heap.size < wl.heap.size := lt_of_block mB; have dkl : ¬ wk.heap.size = wl.heap.size := (by omega); have HMZ := As.mk (HMA2.out (wl.alloc (.cells #[.int .i64 (v2 : Int), .slice AB m2 cb] 44)) AA ca AB cb (HRA.out.kp (kb'.alloc _) (by simp) (by simp)) (rb.kp ((Kp.refl [] wl).alloc _) (by simp) (by simp))); have HKB : As (Kp [] w wl) := ⟨(HK8.out.trans HKA.out (by simp)).trans kb' (by simp)⟩; clear rb kb kb' mB HDY)
              | (go_at_call 20; refine HMZ.out.mono ?_; rintro e wm ⟨rfl, kc⟩; have HKC : As (Kp [] w wm) := ⟨(HKB.out.alloc _).trans kc (by simp)⟩; clear kc HMZ)
              | (go_at_call 8; refine (known_any _).mono ?_; rintro e wn ⟨rfl, kd⟩; have HKD : As (Kp [] w wn) := ⟨HKC.out.trans kd (by simp)⟩; clear kd))
            go_ret
            exact ⟨rfl, HKD.out.below⟩

theorem mbytes_row (w : World) (v : Int) (_ : (Lit.int .i64 v).wf = true) (A : Option Addr) (n c : Nat) (l : List (List Int)) (hn : l.length = n) (hr : Ri [] w A l) (_ : n ≤ c) (_ : c ≤ 9223372036854775807) (_ : A = none → c = 0) (hg : gSize l ≤ 2097152)
    (B : Option Addr) (m d : Nat) (xs : List Int) (hm : xs.length = m) (hs : Rd w B (iv .u8 xs)) (hc : m ≤ d) (hd : d ≤ 9223372036854775807) (hnil : B = none → d = 0) (hw : ∀ x ∈ xs, (Lit.int .u8 x).wf = true) (hz : m * 1 ≤ 140737488351232) :
    Calls Try.prog 4 #[.int .i64 v, .slice A n c, .slice B m d] w fun e w' => e = .returned (.bool true) ∧ Below w.heap.size w w' :=
  mbytes_law w v A n c l B m d xs hn hr hg hm hs hc hd hnil (fun x hx => wf_u8 (hw x hx)) (by omega)
end Go.Proofs.Ytiabdeciadfiiaa.haystacklaw21
