/- The walk of OctetJoins: rows joined in parts and all at once; their check sums. -/
import Derived.Test.YtdafiblehgeddaaKnown1
import Derived.Test.YtdafiblehgeddaaSum
import Derived.Test.YtdafiblehgeddaaHeavy1
import Derived.Test.YtdafiblehgeddaaOpen
import Derived.Test.YtdafiblehgeddaaJoin
import Derived.Test.YtdafiblehgeddaaFull1
import Derived.Test.YtdafiblehgeddaaVals
namespace Go.Proofs.Ytdafiblehgeddaa.haystacklaw1
open Go.RowKit H O

theorem jflat_wf {l : List (List Int)} (h : ∀ x ∈ l, ∀ y ∈ x, 0 ≤ y ∧ y < 256) : Wf l.flatten := by
  intro y hy
  obtain ⟨x, hx, hyx⟩ := List.mem_flatten.1 hy
  exact h x hx y hyx
/-- Two rows that are there, as a new list. -/
theorem rs_pair {w : World} {A3 A4 : Option Addr} {n3 c3 n4 c4 : Nat} {xs ys : List Int} (h3 : xs.length = n3) (h4 : ys.length = n4) (r3 : Rd w A3 (iv .u8 xs)) (r4 : Rd w A4 (iv .u8 ys)) (l3 : n3 ≤ c3) (l4 : n4 ≤ c4) (e3 : A3 = none → c3 = 0) (e4 : A4 = none → c4 = 0) (u : TypeId) :
    Rs [] (w.alloc (.cells #[.slice A3 n3 c3, .slice A4 n4 c4] u)) (some ⟨w.heap.size, 0, none⟩) [xs, ys] := by
  subst h3 h4
  have k := (Kp.refl [] w).alloc (.cells #[.slice A3 xs.length c3, .slice A4 ys.length c4] u)
  refine Vals.rs (vs := [.slice A3 xs.length c3, .slice A4 ys.length c4]) ⟨rfl, fun j hj => ?_⟩ (rd_new w [.slice A3 xs.length c3, .slice A4 ys.length c4] u)
  match j, hj with
  | 0, _ => exact ⟨A3, c3, rfl, l3, e3, k.rd r3 (fun _ _ => by simp)⟩
  | 1, _ => exact ⟨A4, c4, rfl, l4, e4, k.rd r4 (fun _ _ => by simp)⟩
theorem join_pair {w : World} {A3 A4 : Option Addr} {n3 c3 n4 c4 : Nat} {xs ys : List Int} (h3 : xs.length = n3) (h4 : ys.length = n4) (r3 : Rd w A3 (iv .u8 xs)) (r4 : Rd w A4 (iv .u8 ys)) (l3 : n3 ≤ c3) (l4 : n4 ≤ c4) (e3 : A3 = none → c3 = 0) (e4 : A4 = none → c4 = 0)
    (w3 : Wf xs) (w4 : Wf ys) (hb : n3 + n4 ≤ 1000000) :
    Calls Try.prog 22 #[.slice (some ⟨w.heap.size, 0, none⟩) 2 2] (w.alloc (.cells #[.slice A3 n3 c3, .slice A4 n4 c4] 23)) (joins.JoinPost (xs ++ ys) (w.alloc (.cells #[.slice A3 n3 c3, .slice A4 n4 c4] 23))) := by
  have h := joins.ojoin_any (some ⟨w.heap.size, 0, none⟩) 2 2 [xs, ys] _ rfl (rs_pair h3 h4 r3 r4 l3 l4 e3 e4 23) (Nat.le_refl _) (by
    intro x hx
    simp only [List.mem_cons, List.not_mem_nil, or_false] at hx
    rcases hx with rfl | rfl
    · exact w3
    · exact w4) (by simp; omega) (by decide)
  simpa using h
/-- What Join handed back, spoiled. -/
theorem spoil_post {xs : List Int} {w w' w2 : World} {A : Option Addr} {n c : Nat} (hn : xs.length = n) (hm : n ≤ 70368744177664) (k : Kp [] w' w2)
    (o : Own 5 .u8 w' w.heap.size (.slice A n c) xs ∨ ∃ g, (Value.slice A n c) = .slice (some ⟨g, 0, none⟩) xs.length xs.length ∧ w.heap.size ≤ g ∧ g < w'.heap.size ∧ Rd w' (some ⟨g, 0, none⟩) (iv .u8 xs)) :
    Calls Try.prog 17 #[.slice A n c] w2 fun e w3 => e = .returned (.tuple #[]) ∧ ∃ S, Kp S w2 w3 ∧ ∀ x ∈ S, w.heap.size ≤ x := by
  subst hn
  rcases o with o | ⟨g, hv, _, _, hr⟩
  · refine (spoil_any _ xs.length _ w2 (k.own o.1 (by simp)) hm).mono ?_
    rintro e w3 ⟨rfl, K⟩
    exact ⟨rfl, _, K, fun x hx => o.2 x (by simpa using hx)⟩
  · cases hv
    refine (spoil_full ⟨g, 0, none⟩ xs.length _ w2 (iv_len _ _) (k.rd hr (fun _ _ => by simp)) hm).mono ?_
    rintro e w3 ⟨rfl, K⟩
    exact ⟨rfl, [], K, by simp⟩

set_option maxHeartbeats 16000000 in
set_option maxRecDepth 100000 in
theorem joins_law (A : Option Addr) (n c : Nat) (l : List (List Int)) (hl : l.length = n) (B : Option Addr) (m d : Nat) (r : List (List Int)) (hl2 : r.length = m) (w : World) (hr : Rs [] w A l) (hr2 : Rs [] w B r)
    (hm : n ≤ 4611686018427387904) (hm2 : m ≤ 4611686018427387904) (hc : n ≤ c) (hd : m ≤ d) (hnA : A = none → c = 0) (hnB : B = none → d = 0) (hwf : ∀ x ∈ l, ∀ y ∈ x, 0 ≤ y ∧ y < 256) (hwf2 : ∀ x ∈ r, ∀ y ∈ x, 0 ≤ y ∧ y < 256) :
    Calls Try.prog 6 #[.slice A n c, .slice B m d] w fun e w' => e = .returned (.bool true) ∧ Below w.heap.size w w' := by
  have HV := As.mk (heavy_any A n c l w [] hl hr hm)
  cases hh : heavy l with
  | true =>
    rw [hh] at HV
    clear hh
    go_enter Try.func6, Try.ntmps6
    go_wp2_with (go_at_call 21; refine HV.out.mono ?_; rintro e w1 ⟨rfl, n1, rfl⟩; clear HV)
    go_ret
    exact ⟨rfl, ((Kp.refl [] w).drewN _).below⟩
  | false =>
    rw [hh] at HV
    have HV2 : As (∀ wX, Kp [] w wX → Calls Try.prog 21 #[.slice B m d] wX fun e w' => e = .returned (.bool (heavy r)) ∧ ∃ n, w' = wX.drewN n) := ⟨fun wX k => heavy_any B m d r wX [] hl2 (hr2.kp k (by simp)) hm2⟩
    cases hh2 : heavy r with
    | true =>
      rw [hh2] at HV2
      clear hh hh2
      go_enter Try.func6, Try.ntmps6
      go_wp2_with (go_at_call 21; refine HV.out.mono ?_; rintro e w1 ⟨rfl, n1, hw1⟩; have HK1 : As (Kp [] w w1) := ⟨by rw [hw1]; exact (Kp.refl [] w).drewN _⟩; have HV3 := As.mk (HV2.out w1 HK1.out); clear HV hw1)
      go_wp2_with (go_at_call 21; refine HV3.out.mono ?_; rintro e w2 ⟨rfl, n2, hw2⟩; have HK2 : As (Kp [] w w2) := ⟨by rw [hw2]; exact HK1.out.drewN _⟩; clear HV3 hw2)
      go_ret
      exact ⟨rfl, HK2.out.below⟩
    | false =>
      rw [hh2] at HV2
      obtain ⟨hb1, hb2⟩ := heavy_le hh
      obtain ⟨hb3, hb4⟩ := heavy_le hh2
      obtain ⟨va, va1, va2, va3⟩ := Vals.of hr
      obtain ⟨vb, vb1, vb2, vb3⟩ := Vals.of hr2
      have HVA := As.mk va1
      have HVB := As.mk vb1
      have HDA := As.mk va2
      have HDB := As.mk vb2
      have HCA := As.mk va3
      have HCB := As.mk vb3
      have HLA : As (va.length = n) := ⟨by rw [va1.1, hl]⟩
      have HLB : As (vb.length = m) := ⟨by rw [vb1.1, hl2]⟩
      have HL := As.mk hl
      have HL2 := As.mk hl2
      have HR := As.mk hr
      have HR2 := As.mk hr2
      have HNA := As.mk hnA
      have HNB := As.mk hnB
      have HWF := As.mk hwf
      have HWF2 := As.mk hwf2
      have HX1 := As.mk hb2
      have HX2 := As.mk hb4
      obtain ⟨Xa, hXa⟩ : ∃ X, X = l.flatten := ⟨_, rfl⟩
      obtain ⟨Xb, hXb⟩ : ∃ X, X = r.flatten := ⟨_, rfl⟩
      obtain ⟨Ta, hTa⟩ : ∃ T, Xa.length = T := ⟨_, rfl⟩
      obtain ⟨Tb, hTb⟩ : ∃ T, Xb.length = T := ⟨_, rfl⟩
      obtain ⟨T, hT⟩ : ∃ T, (Xa ++ Xb).length = T := ⟨_, rfl⟩
      obtain ⟨nt, hnt⟩ : ∃ nt, (va ++ vb).length = nt := ⟨_, rfl⟩
      have hTa4 : Ta ≤ 4000 := by rw [← hTa, hXa]; omega
      have hTb4 : Tb ≤ 4000 := by rw [← hTb, hXb]; omega
      have hT4 : T ≤ 8000 := by rw [← hT, List.length_append]; omega
      have hn : n ≤ 1334 := by omega
      have hm9 : m ≤ 1334 := by omega
      have hnt9 : nt ≤ 2668 := by rw [← hnt, List.length_append, HLA.out, HLB.out]; omega
      have HXA := As.mk hXa
      have HXB := As.mk hXb
      have HTA := As.mk hTa
      have HTB := As.mk hTb
      have HT := As.mk hT
      have HNT := As.mk hnt
      have HFX : As ((l ++ r).flatten = Xa ++ Xb) := ⟨by rw [List.flatten_append, hXa, hXb]⟩
      have HWA : As (Wf Xa) := ⟨by rw [hXa]; exact jflat_wf hwf⟩
      have HWB : As (Wf Xb) := ⟨by rw [hXb]; exact jflat_wf hwf2⟩
      clear hh hh2 hb1 hb2 hb3 hb4 va1 va2 va3 vb1 vb2 vb3 hr hr2 hl hl2 hnA hnB hwf hwf2 hXa hXb hTa hTb hT hnt
      go_enter Try.func6, Try.ntmps6
      go_wp2_with (go_at_call 21; refine HV.out.mono ?_; rintro e w1 ⟨rfl, n1, hw1⟩; have HK1 : As (Kp [] w w1) := ⟨by rw [hw1]; exact (Kp.refl [] w).drewN _⟩; have HV3 := As.mk (HV2.out w1 HK1.out); clear HV hw1)
      go_wp2_with (first
        | (go_at_call 21; refine HV3.out.mono ?_; rintro e w2 ⟨rfl, n2, hw2⟩; have HK2 : As (Kp [] w w2) := ⟨by rw [hw2]; exact HK1.out.drewN _⟩; clear HV3 hw2)
        | (at_builtin; refine appR rfl (.tmp 15) (.tmp 16) rfl (.slice (some ⟨w2.heap.size, 0, none⟩) 0 0) 0 [] rfl (own_new w2 [] _ (Nat.zero_le _)) A n c va rfl HLA.out ((HK2.out.alloc _).rd_new HDA.out (by simp)) HNA.out HCA.out (by omega) ?_; intro v3 w3 o3 k3 a3; have HK3 : As (Kp [] w w3) := ⟨HK2.out.trans (kp_of_new k3) (by simp)⟩; have HO3 : As (w3.ownsRow 0 23 1 v3 n va) := ⟨by simpa using o3⟩; have HLO3 : As (∀ x, v3.ownBlock = some x → w.heap.size ≤ x) := ⟨a3.ge (by have := HK2.out.size; simp; omega) (by have := HK2.out.size; intro x hx; simp [Value.ownBlock] at hx; omega)⟩; clear o3 k3 a3)
        | (at_builtin; refine appR rfl (.tmp 17) (.tmp 18) rfl v3 n va rfl HO3.out B m d vb rfl HLB.out (HK3.out.rd_new HDB.out (by simp)) HNB.out HCB.out (by omega) ?_; intro v4 w4 o4 k4 a4; have HK4 : As (Kp [] w w4) := ⟨HK3.out.row k4 (fun x hx => .inr (HLO3.out x hx))⟩; have o4' : w4.ownsRow 0 23 1 v4 nt (va ++ vb) := (by have h9 := HNT.out; rw [List.length_append, HLA.out, HLB.out] at h9; rw [← h9]; exact o4); obtain ⟨A4, c4, rfl, hc4, hc4', R4, N4⟩ := own_rd o4'; have HRS : As (Rs [] w4 A4 (l ++ r)) := ⟨Vals.rs ((HVA.out.app HVB.out).kp HK4.out) R4⟩; clear o4 k4 a4 o4' R4 N4))
      obtain ⟨X, hX⟩ : ∃ X, X = Xa ++ Xb := ⟨_, rfl⟩
      obtain ⟨s, hs⟩ : ∃ s, s = crc X := ⟨_, rfl⟩
      have HTX : As (X.length = T) := ⟨by rw [hX]; exact HT.out⟩
      have HFX2 : As ((l ++ r).flatten = X) := ⟨by rw [hX]; exact HFX.out⟩
      have HXV := As.mk hX
      have HSV := As.mk hs
      have HWX : As (Wf X) := ⟨by rw [hX]; intro y hy; rcases List.mem_append.1 hy with h | h; exact HWA.out y h; exact HWB.out y h⟩
      have HLR : As ((l ++ r).length = nt) := ⟨by rw [← HNT.out, List.length_append, List.length_append, HVA.out.1, HVB.out.1]⟩
      have HWFR : As (∀ x ∈ l ++ r, ∀ y ∈ x, 0 ≤ y ∧ y < 256) := ⟨fun x hx => by rcases List.mem_append.1 hx with h | h; exact HWF.out x h; exact HWF2.out x h⟩
      have HXR : As (∀ x ∈ l ++ r, x.length ≤ 4000) := ⟨fun x hx => by rcases List.mem_append.1 hx with h | h; exact HX1.out x h; exact HX2.out x h⟩
      have HJALL : As (∀ wX, Kp [] w4 wX → Calls Try.prog 22 #[.slice A4 nt c4] wX (joins.JoinPost X wX)) := ⟨fun wX k => by
        have h := joins.ojoin_any A4 nt c4 (l ++ r) wX HLR.out (HRS.out.kp k (by simp)) hc4 (fun x hx => HWFR.out x hx) (by rw [HFX2.out, HTX.out]; omega) (by omega)
        rwa [HFX2.out] at h⟩
      have HJA : As (∀ wX, Kp [] w wX → Calls Try.prog 22 #[.slice A n c] wX (joins.JoinPost Xa wX)) := ⟨fun wX k => by
        have h := joins.ojoin_any A n c l wX HL.out (HR.out.kp k (by simp)) hc (fun x hx => HWF.out x hx) (by rw [← HXA.out, HTA.out]; omega) (by omega)
        rwa [← HXA.out] at h⟩
      have HJB : As (∀ wX, Kp [] w wX → Calls Try.prog 22 #[.slice B m d] wX (joins.JoinPost Xb wX)) := ⟨fun wX k => by
        have h := joins.ojoin_any B m d r wX HL2.out (HR2.out.kp k (by simp)) hd (fun x hx => HWF2.out x hx) (by rw [← HXB.out, HTB.out]; omega) (by omega)
        rwa [← HXB.out] at h⟩
      have HJ1 := As.mk (HJA.out w4 HK4.out)
      clear hX hs
      go_wp2_with (go_at_call 22; refine HJ1.out.mono ?_; rintro e w5 ⟨v5, rfl, K5, O5⟩; obtain ⟨A5, c5, rfl, hc5, hc5', R5, N5⟩ := joins.post_rd O5 Ta HTA.out (by omega); have HK5 := As.mk K5; have HR5 := As.mk R5; have HN5 := As.mk N5; have HJ2 := As.mk (HJB.out w5 (HK4.out.trans K5 (by simp))); clear HJ1 K5 O5 R5 N5)
      go_wp2_with (go_at_call 22; refine HJ2.out.mono ?_; rintro e w6 ⟨v6, rfl, K6, O6⟩; obtain ⟨A6, c6, rfl, hc6, hc6', R6, N6⟩ := joins.post_rd O6 Tb HTB.out (by omega); have HK6 : As (Kp [] w4 w6) := ⟨HK5.out.trans K6 (by simp)⟩; have HJ3 := As.mk (join_pair HTA.out HTB.out (K6.rd HR5.out (fun _ _ => by simp)) R6 hc5 hc6 HN5.out N6 HWA.out HWB.out (by omega)); rw [← HXV.out] at HJ3; clear HJ2 K6 O6 R6 N6)
      go_wp2_with (go_at_call 22; refine HJ3.out.mono ?_; rintro e w7 ⟨v7, rfl, K7, O7⟩; obtain ⟨A7, c7, rfl, hc7, hc7', R7, N7⟩ := joins.post_rd O7 T HTX.out (by omega); have HK7 : As (Kp [] w4 w7) := ⟨(HK6.out.alloc _).trans K7 (by simp)⟩; have HO7 := As.mk O7; have HR7 := As.mk R7; have HN7 := As.mk N7; have HJ4 := As.mk (HJALL.out w7 HK7.out); clear HJ3 K7 O7 R7 N7)
      go_wp2_with (go_at_call 22; refine HJ4.out.mono ?_; rintro e w8 ⟨v8, rfl, K8, O8⟩; obtain ⟨A8, c8, rfl, hc8, hc8', R8, _⟩ := joins.post_rd O8 T HTX.out (by omega); have HK8 := As.mk K8; have HSM := As.mk (same_any A7 A8 T c7 T c8 X X w8 HTX.out HTX.out (K8.rd HR7.out (fun _ _ => by simp)) R8 (by rw [HTX.out]; omega)); clear HJ4 K8 O8 R8)
      go_wp2_with (go_at_call 14; refine HSM.out.mono ?_; rintro e w9 ⟨rfl, n9, hw9⟩; have HK9 : As (Kp [] w7 w9) := ⟨by rw [hw9]; exact HK8.out.drewN _⟩; have HS1 : As (Calls Try.prog 23 #[.slice A4 nt c4] w9 fun e w' => e = .returned (.int .u32 s) ∧ w' = w9) := ⟨by rw [HSV.out, ← HFX2.out]; exact sum.sum_any A4 nt c4 (l ++ r) [] w9 HLR.out (HRS.out.kp (HK7.out.trans HK9.out (by simp)) (by simp)) (by omega) (fun x hx => by have := HXR.out x hx; omega) HWFR.out⟩; clear HSM hw9)
      go_wp2_with (go_at_call 23; refine HS1.out.mono ?_; rintro e w10 ⟨rfl, rfl⟩; have HS2 : As (Calls Try.prog 23 #[.slice (some ⟨w10.heap.size, 0, none⟩) 1 1] (w10.alloc (.cells #[.slice A7 T c7] 23)) fun e w' => e = .returned (.int .u32 s) ∧ w' = w10.alloc (.cells #[.slice A7 T c7] 23)) := ⟨by have h9 := sum.sum_any (some ⟨w10.heap.size, 0, none⟩) 1 1 [X] [] _ rfl (rs_cell w10 A7 X T c7 HTX.out hc7 HN7.out 23 (RdS.new HR7.out HK9.out (by simp)) (by simp)) (by decide) (by intro x hx; simp only [List.mem_singleton] at hx; subst hx; rw [HTX.out]; omega) (by intro x hx; simp only [List.mem_singleton] at hx; subst hx; exact HWX.out); rw [show [X].flatten = X from by simp, ← HSV.out] at h9; exact h9⟩; clear HS1)
      go_wp2_with (go_at_call 23; refine HS2.out.mono ?_; rintro e w11 ⟨rfl, hw11⟩; have HK11 : As (Kp [] w7 w11) := ⟨by rw [hw11]; exact HK9.out.alloc _⟩; clear HS2 hw11)
      go_loopw [7, 8] (fun s i wr => ∃ k : Nat, i = .int .i64 (k : Int) ∧ k ≤ nt ∧ s = .int .i64 ((((l ++ r).take k).flatten.length : Nat) : Int) ∧ As (wr = w11)) (fun _ i _ => nt - (intOf i).toNat)
      case atStart => exact ⟨0, rfl, by omega, rfl, ⟨rfl⟩⟩
      case round =>
        obtain ⟨k, rfl, hk, rfl, ⟨rfl⟩⟩ := hrel
        by_cases hlt : k < nt
        · have hlx : k < (l ++ r).length := by rw [HLR.out]; exact hlt
          obtain ⟨a, Aj, cj, rfl, _, d0, hcj, _, _⟩ := HRS.out k hlx
          have d1 := (HK7.out.trans HK11.out (by simp)).cell d0 (by simp)
          have hfs := congrArg List.length (joins.flat_step (l ++ r) k hlx)
          have hfl := joins.flat_le (l ++ r) (k + 1)
          rw [HFX2.out, HTX.out] at hfl
          rw [List.length_append] at hfs
          obtain ⟨len, hlen⟩ : ∃ len, (l ++ r)[k].length = len := ⟨_, rfl⟩
          obtain ⟨acc, hacc⟩ : ∃ acc, ((l ++ r).take k).flatten.length = acc := ⟨_, rfl⟩
          obtain ⟨acc', hacc'⟩ : ∃ acc', ((l ++ r).take (k + 1)).flatten.length = acc' := ⟨_, rfl⟩
          rw [hlen] at d1 hcj hfs
          rw [hacc, hacc'] at hfs
          rw [hacc'] at hfl
          rw [hacc]
          have HA' := As.mk hacc'
          have HFS := As.mk hfs
          have HFL : acc + len ≤ T := by omega
          clear d0 hfs hfl hlen hacc hacc'
          go_wp2
          go_roundw
          case rel => exact ⟨k + 1, by go_num, by omega, by rw [HA'.out, HFS.out]; go_num, ⟨trivial⟩⟩
          case measure => simp [intOf]; omega
        · obtain rfl : k = nt := by omega
          have hall : ((l ++ r).take k).flatten.length = T := by rw [List.take_of_length_le (by rw [HLR.out]; exact Nat.le_refl _), HFX2.out, HTX.out]
          rw [hall]
          clear hall
          obtain ⟨w11, rfl⟩ : ∃ w11, w11 = wr := ⟨_, rfl⟩
          have HSP := As.mk (spoil_post HTX.out (by omega) HK11.out HO7.out)
          go_wp2_with (go_at_call 17; refine HSP.out.mono ?_; rintro e w12 ⟨rfl, S, k12, hS⟩; have HK12 : As (Kp [] w4 w12) := ⟨(HK7.out.trans HK11.out (by simp)).trans k12 (fun x hx => by have h1 := hS x hx; have h2 := HK6.out.size; rw [World.size_alloc] at h1; omega)⟩; have HJ5 := As.mk (HJALL.out w12 HK12.out); clear k12 hS HSP)
          go_wp2_with (go_at_call 22; refine HJ5.out.mono ?_; rintro e w13 ⟨v13, rfl, K13, O13⟩; obtain ⟨A13, c13, rfl, hc13, hc13', R13, _⟩ := joins.post_rd O13 T HTX.out (by omega); have HK13 : As (Kp [] w4 w13) := ⟨HK12.out.trans K13 (by simp)⟩; have HR13 := As.mk R13; have HJ6 := As.mk (HJA.out w13 (HK4.out.trans HK13.out (by simp))); clear HJ5 K13 O13 R13)
          go_wp2_with (go_at_call 22; refine HJ6.out.mono ?_; rintro e w14 ⟨v14, rfl, K14, O14⟩; obtain ⟨A14, c14, rfl, hc14, hc14', R14, N14⟩ := joins.post_rd O14 Ta HTA.out (by omega); have HK14 : As (Kp [] w13 w14) := ⟨K14⟩; have HR14 := As.mk R14; have HN14 := As.mk N14; have HJ7 := As.mk (HJB.out w14 (HK4.out.trans (HK13.out.trans HK14.out (by simp)) (by simp))); clear HJ6 K14 O14 R14 N14)
          go_wp2_with (go_at_call 22; refine HJ7.out.mono ?_; rintro e w15 ⟨v15, rfl, K15, O15⟩; obtain ⟨A15, c15, rfl, hc15, hc15', R15, N15⟩ := joins.post_rd O15 Tb HTB.out (by omega); have HK15 : As (Kp [] w13 w15) := ⟨HK14.out.trans K15 (by simp)⟩; have HJ8 := As.mk (join_pair HTA.out HTB.out (K15.rd HR14.out (fun _ _ => by simp)) R15 hc14 hc15 HN14.out N15 HWA.out HWB.out (by omega)); rw [← HXV.out] at HJ8; clear HJ7 K15 O15 R15 N15)
          go_wp2_with (go_at_call 22; refine HJ8.out.mono ?_; rintro e w16 ⟨v16, rfl, K16, O16⟩; obtain ⟨A16, c16, rfl, _, _, R16, _⟩ := joins.post_rd O16 T HTX.out (by omega); have HK16 : As (Kp [] w13 w16) := ⟨(HK15.out.alloc _).trans K16 (by simp)⟩; have HSM2 := As.mk (same_any A13 A16 T c13 T c16 X X w16 HTX.out HTX.out (HK16.out.rd HR13.out (fun _ _ => by simp)) R16 (by rw [HTX.out]; omega)); clear HJ8 K16 O16 R16)
          go_wp2_with (first
            | (go_at_call 14; refine HSM2.out.mono ?_; rintro e w17 ⟨rfl, n17, hw17⟩; have HK17 : As (Kp [] w w17) := ⟨by rw [hw17]; exact (HK4.out.trans (HK13.out.trans HK16.out (by simp)) (by simp)).drewN _⟩; clear HSM2 hw17)
            | (go_at_call 11; refine (known_any _).mono ?_; rintro e w18 ⟨rfl, hk18⟩; have HK18 : As (Kp [] w w18) := ⟨HK17.out.trans hk18 (by simp)⟩; clear hk18))
          go_ret
          exact ⟨rfl, HK18.out.below⟩

theorem joins_row (w : World) (A : Option Addr) (n c : Nat) (l : List (List Int)) (hl : l.length = n) (hr : Rs [] w A l) (hc : n ≤ c) (_hm : c ≤ 9223372036854775807) (hn : A = none → c = 0)
    (hw : ∀ x ∈ l, x.length ≤ 9223372036854775807 ∧ ∀ y ∈ x, (Lit.int .u8 y).wf = true) (hz : n * 24 ≤ 140737488351232)
    (B : Option Addr) (m d : Nat) (r : List (List Int)) (hl2 : r.length = m) (hr2 : Rs [] w B r) (hd : m ≤ d) (_hm2 : d ≤ 9223372036854775807) (hn2 : B = none → d = 0)
    (hw2 : ∀ x ∈ r, x.length ≤ 9223372036854775807 ∧ ∀ y ∈ x, (Lit.int .u8 y).wf = true) (hz2 : m * 24 ≤ 140737488351232) :
    Calls Try.prog 6 #[.slice A n c, .slice B m d] w fun e w' => e = .returned (.bool true) ∧ Below w.heap.size w w' :=
  joins_law A n c l hl B m d r hl2 w hr hr2 (by omega) (by omega) hc hd hn hn2 (fun x hx y hy => wf_u8 ((hw x hx).2 y hy)) (fun x hx y hy => wf_u8 ((hw2 x hx).2 y hy))

end Go.Proofs.Ytdafiblehgeddaa.haystacklaw1
