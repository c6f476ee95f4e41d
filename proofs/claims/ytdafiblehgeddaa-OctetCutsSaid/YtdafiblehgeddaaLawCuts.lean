/- The walk of OctetCuts: rows whose bytes are cut short. -/
import Derived.Test.YtdafiblehgeddaaKnown1
import Derived.Test.YtdafiblehgeddaaRef2
import Derived.Test.YtdafiblehgeddaaReader2
import Derived.Test.YtdafiblehgeddaaHeavy1
import Derived.Test.YtdafiblehgeddaaOpen
import Derived.Test.YtdafiblehgeddaaCuts
import Derived.Deep.RegionHeld3
namespace Go.Proofs.Ytdafiblehgeddaa.haystacklaw1
open Go.RowKit H O

/-- Where the rows end. -/
def endsOf (l : List (List Int)) (k : Nat) : List Int := (List.range k).map fun j => ((rows (l.take (j + 1))).length : Int)
theorem endsOf_len (l : List (List Int)) (k : Nat) : (endsOf l k).length = k := by simp [endsOf]
theorem endsOf_step (l : List (List Int)) (k : Nat) : endsOf l (k + 1) = endsOf l k ++ [((rows (l.take (k + 1))).length : Int)] := by simp [endsOf, List.range_succ]
theorem endsOf_get (l : List (List Int)) (k j : Nat) (h : j < k) : (iv .i64 (endsOf l k))[j]? = some (.int .i64 ((rows (l.take (j + 1))).length : Int)) := by simp [endsOf, iv, h]

/-- A row of bytes and a row of numbers, apart. -/
structure Pair (w wr : World) (v5 v6 : Value) (zs es : List Int) : Prop where
  kp : Kp [] w wr
  own : Own 5 .u8 wr w.heap.size v5 zs
  ends : Own 3 .i64 wr w.heap.size v6 es
  apart : ∀ x, v5.ownBlock = some x → v6.ownBlock ≠ some x
theorem Pair.start (w : World) : Pair w w (.slice none 0 0) (.slice none 0 0) [] [] := ⟨Kp.refl [] w, Own.nil _ _ _ _, Own.nil _ _ _ _, by simp [Value.ownBlock]⟩
theorem Pair.skip {w wr w1 : World} {v5 v6 : Value} {zs es : List Int} (h : Pair w wr v5 v6 zs es) (k : Kp [] wr w1) : Pair w w1 v5 v6 zs es :=
  ⟨h.kp.trans k (by simp), h.own.kp k (by simp), h.ends.kp k (by simp), h.apart⟩
theorem Pair.app {w wr w1 : World} {v5 v6 v1 : Value} {zs es us : List Int} {m n : Nat} (h : Pair w wr v5 v6 zs es) (hm : zs.length = m) (hn : us.length = n) (o : w1.ownsRow 0 5 1 v1 (m + n) (iv .u8 zs ++ iv .u8 us))
    (k : Kp v5.ownBlock.toList wr w1) (a : At wr.heap.size v5.ownBlock v1.ownBlock) : Pair w w1 v1 v6 (zs ++ us) es := by
  subst hm hn
  refine ⟨h.kp.row k (fun x hx => .inr (h.own.2 x hx)), ⟨by simpa [iv] using o, a.ge h.kp.size h.own.2⟩, h.ends.kp k (fun x hx hm => h.apart x (by simpa using hm) hx), ?_⟩
  intro x hx h6
  rcases a with e | ⟨j, e, hj⟩
  · exact h.apart x (by rw [← e]; exact hx) h6
  · have := own_lt h.ends.1 x h6
    rw [e] at hx
    have := Option.some.inj hx
    omega
theorem Pair.app6 {w wr w1 : World} {v5 v6 v1 : Value} {zs es : List Int} {n : Nat} {y : Int} (h : Pair w wr v5 v6 zs es) (hn : es.length = n) (o : w1.ownsRow 0 3 1 v1 (n + 1) (iv .i64 es ++ [.int .i64 y]))
    (k : Kp v6.ownBlock.toList (wr.alloc (.cells #[.int .i64 y] 3)) w1) (a : At (wr.heap.size + 1) v6.ownBlock v1.ownBlock) : Pair w w1 v5 v1 zs (es ++ [y]) := by
  subst hn
  have k' : Kp v6.ownBlock.toList wr w1 := ((Kp.refl _ wr).alloc _).trans k (fun x hx => .inl hx)
  refine ⟨h.kp.row k' (fun x hx => .inr (h.ends.2 x hx)), h.own.kp k' (fun x hx hm => h.apart x hx (by simpa using hm)), ⟨by simpa [iv] using o, a.ge (by have := h.kp.size; omega) h.ends.2⟩, ?_⟩
  intro x hx h6
  have h5 := own_lt h.own.1 x hx
  exact a.off (by omega) (h.apart x hx) h6

set_option maxHeartbeats 16000000 in
set_option maxRecDepth 100000 in
theorem cuts_law (A : Option Addr) (n c : Nat) (l : List (List Int)) (hl : l.length = n) (at_ : Int) (w : World) (hr : Rs [] w A l)
    (hm : n ≤ 4611686018427387904) (hwf : ∀ x ∈ l, ∀ y ∈ x, 0 ≤ y ∧ y < 256) :
    Calls Try.prog 8 #[.slice A n c, .int .i64 at_] w fun e w' => e = .returned (.bool true) ∧ Below w.heap.size w w' := by
  have HV := As.mk (heavy_any A n c l w [] hl hr hm)
  cases hh : heavy l with
  | true =>
    rw [hh] at HV
    clear hh
    go_enter Try.func8, Try.ntmps8
    go_wp2_with (go_at_call 21; refine HV.out.mono ?_; rintro e w1 ⟨rfl, n1, rfl⟩)
    go_ret
    exact ⟨rfl, ((Kp.refl [] w).drewN _).below⟩
  | false =>
    rw [hh] at HV
    by_cases h0 : n = 0
    · subst h0
      clear hh
      go_enter Try.func8, Try.ntmps8
      go_wp2_with (go_at_call 21; refine HV.out.mono ?_; rintro e w1 ⟨rfl, n1, rfl⟩)
      go_ret
      exact ⟨rfl, ((Kp.refl [] w).drewN _).below⟩
    · obtain ⟨hb1, hb2⟩ := heavy_le hh
      have HB := As.mk hb1
      have HR := As.mk hr
      have HL := As.mk hl
      have HWF := As.mk hwf
      have HX := As.mk hb2
      clear hh hb1 hb2 hr hl hwf
      have hn : n ≤ 1334 := by have := HB.out; have := HL.out; omega
      have hn0 : ((n : Int) == 0) = false := by simpa using h0
      go_enter Try.func8, Try.ntmps8
      go_wp2_with (go_at_call 21; refine HV.out.mono ?_; rintro e w0 ⟨rfl, n1, hw0⟩; have HK0 : As (Kp [] w w0) := ⟨by rw [hw0]; exact (Kp.refl [] w).drewN _⟩; clear hw0)
      go_loopw [5, 6, 7] (fun all ends i wr => ∃ k : Nat, i = .int .i64 (k : Int) ∧ k ≤ n ∧ As (Pair w0 wr all ends (rows (l.take k)) (endsOf l k))) (fun _ _ i _ => n - (intOf i).toNat)
      case atStart => exact ⟨0, rfl, by omega, ⟨Pair.start w0⟩⟩
      case round =>
        obtain ⟨k, rfl, hk, HY⟩ := hrel
        by_cases hlt : k < n
        · have hlx : k < l.length := by rw [HL.out]; exact hlt
          obtain ⟨a, Aj, cj, rfl, _, d0, hcj, hnilj, hrj⟩ := HR.out k hlx
          have hxl := HX.out l[k] (by simp)
          obtain ⟨x, hx⟩ : ∃ x, x = l[k] := ⟨_, rfl⟩
          rw [← hx] at d0 hcj hrj hxl
          obtain ⟨len, hlen⟩ : ∃ len, x.length = len := ⟨_, rfl⟩
          rw [hlen] at d0 hcj hxl
          have HROW : As (∀ wX, Kp [] w wX → wX.cell? (a.add k) = some (.slice Aj len cj) ∧ Rd wX Aj (iv .u8 x)) := ⟨fun wX hK => ⟨hK.cell d0 (by simp), hK.rd hrj.rd (fun _ _ => by simp)⟩⟩
          have HXE := As.mk hx
          have HLEN := As.mk hlen
          have hd := (HROW.out _ (HK0.out.trans HY.out.kp (by simp))).1
          have HRB := As.mk (ref.bytes_any Aj len cj x wr hlen (HROW.out _ (HK0.out.trans HY.out.kp (by simp))).2 hnilj (by omega))
          obtain ⟨mz, hmz⟩ : ∃ mz, (rows (l.take k)).length = mz := ⟨_, rfl⟩
          obtain ⟨mr, hmr⟩ : ∃ mr, (row x).length = mr := ⟨_, rfl⟩
          obtain ⟨mt, hmt⟩ : ∃ mt, (rows (l.take k) ++ row x).length = mt := ⟨_, rfl⟩
          have HMZ := As.mk hmz
          have HMR := As.mk hmr
          have HMT := As.mk hmt
          have hbd : mz + mr ≤ 20007 := by
            have h1 : (row x).length ≤ 9 + x.length := by rw [row, List.length_append]; have := num_len x.length; omega
            have h2 := rows_len_take l k hlx
            have h3 := HB.out
            have h4 := HL.out
            omega
          have hmt9 : mt ≤ 20007 := by rw [List.length_append] at hmt; omega
          clear d0 hrj hx hlen hmz hmr hmt
          go_wp2_with (first
            | (go_at_call 28; refine HRB.out.mono ?_; rintro e w5 ⟨v5, rfl, O5, K5⟩; have O5' := O5.1; rw [HMR.out] at O5'; obtain ⟨A5, c5, rfl, _, _, R5, N5⟩ := own_rd O5'; have Y5 := HY.out.skip K5; have HY5 := As.mk Y5; have HOM := Y5.own.1; rw [HMZ.out] at HOM; have HOM' := As.mk HOM; have HR5 := As.mk R5; have HN5 := As.mk N5; clear O5 O5' K5 R5 N5 Y5 HOM)
            | (at_builtin; refine clone.app8 rfl (.tmp 25) (.tmp 30) rfl u5 mz (iv .u8 (rows (l.take k))) rfl HOM'.out A5 mr c5 (iv .u8 (row x)) rfl (by rw [iv_len, HMR.out]) HR5.out HN5.out (iv_one _ _) (by omega) ?_; intro v6 w6 o6 k6 a6; have Y6 := HY5.out.app HMZ.out HMR.out o6 k6 a6; have O6 := Y6.own.1; rw [HMT.out] at O6; obtain ⟨A6, c6, rfl, _, _, _, _⟩ := own_rd O6; have HY6 := As.mk Y6; have HO6 := As.mk Y6.ends.1; rw [endsOf_len] at HO6; clear o6 k6 a6 O6 Y6)
            | (at_builtin; refine app64_one rfl (.tmp 32) (.tmp 35) rfl u6 k (iv .i64 (endsOf l k)) rfl HO6.out (mt : Int) rfl (by omega) ?_; intro v7 w7 o7 k7 a7; have HY7 := As.mk (HY6.out.app6 (endsOf_len l k) o7 k7 a7); clear o7 k7 a7))
          go_roundw
          case rel => exact ⟨k + 1, by go_num, by omega, ⟨by rw [endsOf_step, rows_step l k hlx, ← HXE.out, HMT.out]; exact HY7.out⟩⟩
          case measure => simp [intOf]; omega
        · obtain rfl : k = n := by omega
          have e : l.take k = l := List.take_of_length_le (by rw [HL.out]; omega)
          rw [e] at HY
          obtain ⟨wo, rfl⟩ : ∃ wo, wo = wr := ⟨_, rfl⟩
          obtain ⟨mt, hmt⟩ : ∃ mt, (rows l).length = mt := ⟨_, rfl⟩
          have hmt9 : mt ≤ 20007 := by have h1 := HB.out; have h2 := rows_len l; have h3 := HL.out; omega
          have hmt0 : 0 < mt := by
            rw [← hmt]
            cases l with
            | nil => exact absurd HL.out (by simp; omega)
            | cons x l => rw [rows_cons, row, List.length_append, List.length_append]; have := num_pos (x.length : Int); omega
          have HMT := As.mk hmt
          have O5 := HY.out.own.1
          rw [HMT.out] at O5
          obtain ⟨g5, c5, rfl, hc5, hc5'⟩ := own_form O5 hmt0
          have O6 := HY.out.ends.1
          rw [endsOf_len] at O6
          obtain ⟨A6, c6, rfl, _, _, R6, _⟩ := own_rd O6
          obtain ⟨q, hq, hq30⟩ := mask30 at_
          obtain ⟨cut, hcut⟩ : ∃ cut, q % mt = cut := ⟨_, rfl⟩
          have hcl : cut < mt := by rw [← hcut]; exact Nat.mod_lt _ hmt0
          have HR6 := As.mk R6
          have hmti : (mt : Int) ≠ 0 := by omega
          have hwf0 : Wf (rows l) := by
            intro y hy
            obtain ⟨x, hx, hyx⟩ := List.mem_flatMap.1 hy
            exact row_u8 x (HWF.out x hx) y hyx
          have HNR := As.mk (reader.new_any (some ⟨g5, 0, none⟩) cut c5 ((rows l).take cut) wo (by rw [List.length_take, HMT.out]; omega) (by have h9 := (own_rd O5); obtain ⟨A', c', hv, _, _, h9, _⟩ := h9; cases hv; rw [← iv_take]; exact h9.take cut) (by simp) (by omega) (hwf0.take cut))
          clear e hmt O5 O6 R6 hwf0
          go_wp2_with (go_at_call 16; refine HNR.out.mono ?_; rintro e w1 ⟨b1, g1, rfl, R1, hb1, hg1, K1⟩; rw [← cutSt_zero] at R1; have HK1 : As (Kp [] wo w1) := ⟨K1⟩; have HR1 := As.mk R1; have HB1 : As (w.heap.size ≤ b1 ∧ wo.heap.size ≤ b1) := ⟨by have := (HK0.out.trans HY.out.kp (by simp)).size; omega, hb1⟩; clear R1 hb1 hg1 K1)
          have HKR := As.mk (HK0.out.trans HY.out.kp (by simp))
          have HEND : As (∀ (j : Nat), j < k → ∃ a, A6 = some a ∧ ∀ wX, Kp [] wo wX → wX.cell? (a.add j) = some (.int .i64 ((rows (l.take (j + 1))).length : Int))) := ⟨by
            intro j hj
            obtain ⟨a, ha, hc⟩ := HR6.out j _ (endsOf_get l k j hj)
            exact ⟨a, ha, fun wX hK => hK.cell hc (by simp)⟩⟩
          go_loopw [10] (fun i wr => ∃ j : Nat, i = .int .i64 (j : Int) ∧ j ≤ k ∧ As (∃ g, reader.Rdr wr b1 g (cutSt l cut j)) ∧ As (Kp [] wo wr)) (fun i _ => k - (intOf i).toNat)
          case atStart => exact ⟨0, rfl, by omega, ⟨g1, HR1.out⟩, HK1⟩
          case round =>
            obtain ⟨j, rfl, hj, ⟨g, hR⟩, HK⟩ := hrel
            by_cases hlt : j < k
            · have hlx : j < l.length := by rw [HL.out]; exact hlt
              obtain ⟨a, Aj, cj, rfl, _, d0, hcj, _, hrj⟩ := HR.out j hlx
              obtain ⟨a6, rfl, h6⟩ := HEND.out j hlt
              have hxl := HX.out l[j] (by simp)
              have HBT := As.mk (reader.bytes_any b1 g _ wr hR (by have := cutSt_left l cut j; omega))
              rw [cutSt_step l cut j hlx (by omega)] at HBT
              obtain ⟨x, hx⟩ : ∃ x, x = l[j] := ⟨_, rfl⟩
              rw [← hx] at d0 hcj hrj hxl HBT
              obtain ⟨len, hlen⟩ : ∃ len, x.length = len := ⟨_, rfl⟩
              rw [hlen] at d0 hcj hxl
              have HROW : As (∀ wX, Kp [] w wX → wX.cell? (a.add j) = some (.slice Aj len cj) ∧ Rd wX Aj (iv .u8 x)) := ⟨fun wX hK => ⟨hK.cell d0 (by simp), hK.rd hrj.rd (fun _ _ => by simp)⟩⟩
              have HLEN := As.mk hlen
              obtain ⟨E, hE⟩ : ∃ E, E = (rows (l.take (j + 1))).length := ⟨_, rfl⟩
              have h6' := As.mk h6
              rw [← hE] at h6' HBT
              obtain ⟨st, hst⟩ : ∃ st, st = cutSt l cut (j + 1) := ⟨_, rfl⟩
              have hsome : st.isSome = decide (E ≤ cut) := by rw [hst, hE]; unfold cutSt; split <;> simp_all
              rw [← hst] at HBT
              have HST := As.mk hst
              clear d0 hrj hx hlen hR h6 hE hst
              by_cases hc : E ≤ cut
              · rw [if_pos hc] at HBT
                have hc' : (E : Int) ≤ (cut : Int) := by omega
                have HSM : As (st.isSome = true) := ⟨by rw [hsome]; simpa using hc⟩
                clear hsome
                go_wp2_with (go_at_call 30; refine HBT.out.mono ?_; rintro e w2 ⟨v2, rfl, O2, g2, R2, G2, K2⟩; have O2' := O2.1; rw [HLEN.out] at O2'; obtain ⟨A2, c2, rfl, _, _, D2, _⟩ := own_rd O2'; have HK2 : As (Kp [] wo w2) := ⟨HK.out.trans K2 (by intro y hy; right; have := HB1.out; simp at hy; omega)⟩; have hd2 := (HROW.out _ (HKR.out.trans HK2.out (by simp))).1; have he2 := h6'.out _ HK2.out; have HS2 := As.mk (same_any A2 Aj len c2 len cj x x w2 HLEN.out HLEN.out D2 (HROW.out _ (HKR.out.trans HK2.out (by simp))).2 (by rw [HLEN.out]; omega)); have HR2 := As.mk R2; clear O2 O2' D2 R2 G2 K2)
                go_wp2_with (go_at_call 14; refine HS2.out.mono ?_; rintro e w3 ⟨rfl, n3, hw3⟩; have HK3 : As (Kp [] w2 w3) := ⟨by rw [hw3]; exact (Kp.refl [] w2).drewN _⟩; have HR3 := As.mk (HR2.out.kp HK3.out (by simp) (by simp)); have HG3 := As.mk (reader.good_any b1 _ st w3 HR3.out); rw [HSM.out] at HG3; clear hw3)
                go_wp2_with (go_at_call 19; refine HG3.out.mono ?_; rintro e w4 ⟨rfl, rfl⟩)
                go_roundw
                case rel => exact ⟨j + 1, by go_num, by omega, ⟨_, by rw [← HST.out]; exact HR3.out⟩, ⟨HK2.out.trans HK3.out (by simp)⟩⟩
                case measure => simp [intOf]; omega
              · rw [if_neg hc] at HBT
                have hc' : (cut : Int) < (E : Int) := by omega
                have hnone : st = none := by
                  cases st with
                  | none => rfl
                  | some z => simp only [Option.isSome_some] at hsome; exact absurd (of_decide_eq_true hsome.symm) hc
                clear hsome
                subst hnone
                go_wp2_with (go_at_call 30; refine HBT.out.mono ?_; rintro e w2 ⟨v2, rfl, O2, g2, R2, G2, K2⟩; have O2' : w2.ownsRow 0 5 1 v2 0 [] := O2.1; obtain ⟨A2, c2, rfl, _, _, D2, _⟩ := own_rd O2'; have HK2 : As (Kp [] wo w2) := ⟨HK.out.trans K2 (by intro y hy; right; have := HB1.out; simp at hy; omega)⟩; have he2 := h6'.out _ HK2.out; have HR2 : As (reader.Rdr w2 b1 g2 none) := ⟨R2⟩; have HG2 : As (Calls Try.prog 19 #[.pointer (some ⟨b1, 0, none⟩)] w2 fun e w' => e = .returned (.bool false) ∧ w' = w2) := ⟨reader.good_any b1 _ none w2 R2⟩; have HL2 : As (Calls Try.prog 31 #[.pointer (some ⟨b1, 0, none⟩)] w2 fun e w' => e = .returned (.int .i64 0) ∧ w' = w2) := ⟨reader.left_any b1 _ none w2 R2⟩; clear O2 O2' D2 R2 G2 K2)
                go_wp2_with (first
                  | (go_at_call 19; refine HG2.out.mono ?_; rintro e w3 ⟨rfl, rfl⟩)
                  | (go_at_call 31; refine HL2.out.mono ?_; rintro e w4 ⟨rfl, rfl⟩))
                go_roundw
                case rel => exact ⟨j + 1, by go_num, by omega, ⟨_, by rw [← HST.out]; exact HR2.out⟩, HK2⟩
                case measure => simp [intOf]; omega
            · obtain rfl : j = k := by omega
              have e : cutSt l cut j = none := by have h1 := HL.out; have h2 := HMT.out; rw [← h1]; exact cutSt_end l cut (by omega)
              rw [e] at hR
              have HWH : As (Calls Try.prog 20 #[.pointer (some ⟨b1, 0, none⟩)] wr fun e w' => e = .returned (.bool false) ∧ w' = wr) := ⟨reader.whole_any b1 _ none wr hR⟩
              have HNM := As.mk (reader.num_any b1 _ none wr hR (by simp [left]))
              clear e hR
              go_wp2_with (first
                | (go_at_call 20; refine HWH.out.mono ?_; rintro e w3 ⟨rfl, rfl⟩)
                | (go_at_call 18; refine HNM.out.mono ?_; rintro e w4 ⟨he4, g4, R4, G4, K4⟩; have he4' : e = .returned (.int .i64 0) := he4; subst he4'; have HK4 : As (Kp [] wo w4) := ⟨HK.out.trans K4 (by intro y hy; right; have := HB1.out; simp at hy; omega)⟩; clear he4 R4 G4 K4)
                | (go_at_call 11; refine (known_any _).mono ?_; rintro e w5 ⟨rfl, hk5⟩; have HK5 : As (Kp [] w w5) := ⟨(HKR.out.trans HK4.out (by simp)).trans hk5 (by simp)⟩; clear hk5))
              go_ret
              exact ⟨rfl, HK5.out.below⟩

theorem cuts_row (w : World) (A : Option Addr) (n c : Nat) (l : List (List Int)) (hl : l.length = n) (hr : Rs [] w A l) (_hc : n ≤ c) (_hm : c ≤ 9223372036854775807) (_hn : A = none → c = 0)
    (hw : ∀ x ∈ l, x.length ≤ 9223372036854775807 ∧ ∀ y ∈ x, (Lit.int .u8 y).wf = true) (hz : n * 24 ≤ 140737488351232) (at_ : Int) (_hat : (Lit.int .i64 at_).wf = true) :
    Calls Try.prog 8 #[.slice A n c, .int .i64 at_] w fun e w' => e = .returned (.bool true) ∧ Below w.heap.size w w' :=
  cuts_law A n c l hl at_ w hr (by omega) (fun x hx y hy => wf_u8 ((hw x hx).2 y hy))

end Go.Proofs.Ytdafiblehgeddaa.haystacklaw1
