/- The walk of OpReplies: any reply as bytes, and back. -/
import Derived.Test.YtlknlpiiogmfbaaRepE
import Derived.Test.YtlknlpiiogmfbaaOpC
import Derived.Test.YtlknlpiiogmfbaaInts13
import Derived.Test.YtlknlpiiogmfbaaOpen
import Derived.Deep.RegionHeld3
namespace Go.Proofs.Ytlknlpiiogmfbaa.haystacklaw13
open Go.RowKit H O opk

theorem stNums_nums : ∀ (l : List Int) (r : List Int), (∀ x ∈ l, 0 ≤ x ∧ x ≤ 4611686018427387904) → stNums l.length (some (nums l ++ r)) = (l, some r)
  | [], r, _ => rfl
  | x :: l, r, h => by
    have hx := h x (by simp)
    have e : stNum (some (nums (x :: l) ++ r)) = (O.cl x, some (nums l ++ r)) := by rw [nums_cons, List.append_assoc]; exact stNum_num _ _
    have ih := stNums_nums l r (fun y hy => h y (by simp [hy]))
    simp only [List.length_cons, stNums, e, ih, cl_of hx.1 hx.2]
theorem dRep_rep {er : Int} {vs : List Int} (h0 : 0 ≤ er ∧ er ≤ 100) (hv : ∀ x ∈ vs, 0 ≤ x ∧ x ≤ 4611686018427387904) : dRep (repBytes er vs) = (er, vs.take (min vs.length 8), 0) := by
  obtain ⟨k, hk⟩ : ∃ k, min vs.length 8 = k := ⟨_, rfl⟩
  have hl : (vs.take k).length = k := by rw [List.length_take]; omega
  have e : repBytes er vs = num er ++ (num (k : Int) ++ (nums (vs.take k) ++ [])) := by simp [repBytes, hk, nums_cons, nums_nil]
  have q0 : stNum (some (repBytes er vs)) = (O.cl er, some (num (k : Int) ++ (nums (vs.take k) ++ []))) := by rw [e]; exact stNum_num _ _
  have q1 : stNum (some (num (k : Int) ++ (nums (vs.take k) ++ []))) = (O.cl (k : Int), some (nums (vs.take k) ++ [])) := stNum_num _ _
  have c0 := cl_of (n := er) h0.1 (by omega)
  have c1 := cl_of (n := (k : Int)) (by omega) (by omega)
  have c1' : O.cl (k : Int) = k := by omega
  have q2 := stNums_nums (vs.take k) [] (fun x hx => hv x (List.mem_of_mem_take hx))
  rw [hl] at q2
  simp only [dRep, q0, q1, c1', q2]
  rw [if_pos ⟨by omega, by omega, trivial⟩, c0, hk]

theorem ints_self {A B : Option Addr} {n c d : Nat} {X : List Int} {w : World} (hn : X.length = n) (h0 : Rd w A (iv .i64 X)) (h1 : Rd w B (iv .i64 X)) (hm : n ≤ 9223372036854775807) :
    Calls Try.prog 33 #[.slice A n c, .slice B n d] w fun e w' => e = .returned (.bool true) ∧ Kp [] w w' := by
  refine (ints_any A B n c n d X X w hn hn h0 h1 (by omega)).mono ?_
  rintro e w' ⟨rfl, k, rfl⟩
  exact ⟨by simp, (Kp.refl _ _).drewN _⟩
theorem same_self' {A B : Option Addr} {n c d : Nat} {X : List Int} {w : World} (hn : X.length = n) (h0 : Rd w A (iv .u8 X)) (h1 : Rd w B (iv .u8 X)) (hm : n ≤ 9223372036854775807) :
    Calls Try.prog 29 #[.slice A n c, .slice B n d] w fun e w' => e = .returned (.bool true) ∧ Kp [] w w' := by
  refine (same_any A B n c n d X X w hn hn h0 h1 (by omega)).mono ?_
  rintro e w' ⟨rfl, k, rfl⟩
  exact ⟨by simp, (Kp.refl _ _).drewN _⟩

set_option maxHeartbeats 8000000 in
set_option maxRecDepth 100000 in
theorem reps_law (w : World) (er : Int) (A : Option Addr) (n c : Nat) (xs : List Int) (hn : xs.length = n) (hr : Rd w A (iv .i64 xs)) (hc : n ≤ c) (hnil : A = none → c = 0) (hb : n ≤ 140737488351232) :
    Calls Try.prog 9 #[.int .i64 er, .slice A n c] w fun e w' => e = .returned (.bool true) ∧ Below w.heap.size w w' := by
  by_cases h1 : er < 0
  · clear hr hnil hn
    go_enter Try.func9, Try.ntmps9
    go_wp2_with (go_at_call 28; refine (known_any _).mono ?_; rintro e' w1 ⟨rfl, k1⟩; have HK := As.mk k1; clear k1)
    go_ret
    exact ⟨rfl, HK.out.below⟩
  by_cases h2 : 100 < er
  · clear hr hnil hn
    go_enter Try.func9, Try.ntmps9
    go_wp2_with (go_at_call 28; refine (known_any _).mono ?_; rintro e' w1 ⟨rfl, k1⟩; have HK := As.mk k1; clear k1)
    go_ret
    exact ⟨rfl, HK.out.below⟩
  by_cases h3 : 100 < n
  · clear hr hnil hn
    go_enter Try.func9, Try.ntmps9
    go_wp2_with (go_at_call 28; refine (known_any _).mono ?_; rintro e' w1 ⟨rfl, k1⟩; have HK := As.mk k1; clear k1)
    go_ret
    exact ⟨rfl, HK.out.below⟩
  obtain ⟨X, hX⟩ : ∃ X, X = repBytes er xs := ⟨_, rfl⟩
  obtain ⟨N, hN⟩ : ∃ N, X.length = N := ⟨_, rfl⟩
  have hN9 : N ≤ 100 := by rw [← hN, hX]; exact repBytes_len _ _
  obtain ⟨k, hk⟩ : ∃ k, k = min n 8 := ⟨_, rfl⟩
  have hwX : Wf X := by
    rw [hX]
    intro x hx
    rcases List.mem_append.1 hx with h | h
    · exact nums_u8 _ x h
    · exact nums_u8 _ x h
  have HR := As.mk hr
  have HL := As.mk hn
  have HNV := As.mk hN
  have HXV := As.mk hX
  have HWX := As.mk hwX
  have HNIL := As.mk hnil
  have HER : As (0 ≤ er ∧ er ≤ 100) := ⟨by omega⟩
  have HE1 : As (∀ B d wX, Rd wX B (iv .i64 xs) → n ≤ d → (B = none → d = 0) → Calls Try.prog 31 #[.agg #[.int .i64 er, .slice B n d]] wX fun e w' => ∃ A1 c1, e = .returned (.slice A1 N c1) ∧ Rd w' A1 (iv .u8 X) ∧ Kp [] wX w' ∧ (A1 = none → c1 = 0)) := ⟨fun B d wX r9 g9 m9 => by
    refine (encRep_any er B n d xs wX hn r9 g9 m9 (by omega)).mono ?_
    rintro e w' ⟨v, rfl, o, kk⟩
    rw [← hX] at o
    obtain ⟨A1, c1, rfl, _, _, r1, n1⟩ := own_rd o.1
    rw [hN]
    exact ⟨A1, c1, rfl, r1, kk, n1⟩⟩
  have HE2 : As (∀ wX, Kp [] w wX → Calls Try.prog 32 #[.int .i64 er, .slice A n c] wX fun e w' => ∃ A1 c1, e = .returned (.slice A1 N c1) ∧ Rd w' A1 (iv .u8 X) ∧ Kp [] wX w') := ⟨fun wX kX => by
    refine (refRep_any er A n c xs wX hn (kX.rd_new hr (by simp)) hc hnil (by omega)).mono ?_
    rintro e w' ⟨v, rfl, o, kk⟩
    rw [← hX] at o
    obtain ⟨A1, c1, rfl, _, _, r1, n1⟩ := own_rd o.1
    rw [hN]
    exact ⟨A1, c1, rfl, r1, kk⟩⟩
  have hmin : ∀ w, (Builtin.min_ #[3, 3] 3 #[.int .i64 8, .int .i64 (n : Int)]).run Try.prog w = .ok (.int .i64 (k : Int)) w := fun w => by
    rw [writer.min_two]
    congr 2
    split <;> omega
  have hsl := slice_head htI hzI A n c k (by omega) hnil
  have HTK : As (xs.take k = xs.take (min xs.length 8)) := ⟨by rw [hn, hk]⟩
  have hk8 : k ≤ n := by omega
  clear hr hn hX hN hwX hk hnil
  go_enter Try.func9, Try.ntmps9
  go_wp2_with (first
    | (at_builtin; refine app64 rfl (.tmp 22) (.tmp 23) rfl (.slice (some ⟨w.heap.size, 0, none⟩) 0 0) 0 [] rfl (own_new w [] _ (Nat.zero_le _)) A n c (iv .i64 xs) rfl (by rw [iv_len, HL.out]) (((Kp.refl [] w).alloc _).rd_new HR.out (by simp)) HNIL.out (iv_one _ _) (by omega) ?_; intro v1 w1 o1 k1 a1; have o1' : w1.ownsRow 0 3 1 v1 n (iv .i64 xs) := (by simpa using o1); obtain ⟨A1, c1, rfl, hc1, _, r1, n1⟩ := own_rd o1'; have HK1 : As (Kp [] w w1) := ⟨kp_lit k1⟩; have HR1 := As.mk r1; have HE11 := As.mk (HE1.out A1 c1 w1 r1 hc1 n1); clear o1 k1 a1 o1' r1 n1 HE1)
    | (go_at_call 31; refine HE11.out.mono ?_; rintro e' w2 ⟨A2, c2, rfl, r2, k2, n2⟩; have HK12 := As.mk k2; have HR2 := As.mk r2; have HN2 := As.mk n2; have HE22 := As.mk (HE2.out w2 (HK1.out.trans k2 (by simp))); clear r2 k2 n2 HE11 HE2)
    | (go_at_call 32; refine HE22.out.mono ?_; rintro e' w3 ⟨A3, c3, rfl, r3, k3⟩; have HK23 := As.mk k3; have HQ3 := As.mk (same_self' (A := A2) (B := A3) (c := c2) (d := c3) HNV.out (k3.rd HR2.out (fun _ _ => by simp)) r3 (by omega)); clear r3 k3 HE22)
    | (go_at_call 29; refine HQ3.out.mono ?_; rintro e' w4 ⟨rfl, k4⟩; have HK24 : As (Kp [] w2 w4) := ⟨HK23.out.trans k4 (by simp)⟩; have HK14 : As (Kp [] w1 w4) := ⟨HK12.out.trans HK24.out (by simp)⟩; have HI4 := As.mk (ints_self (A := A1) (B := A) (c := c1) (d := c) HL.out (HK14.out.rd HR1.out (fun _ _ => by simp)) ((HK1.out.trans HK14.out (by simp)).rd_new HR.out (by simp)) (by omega)); clear k4 HQ3)
    | (go_at_call 33; refine HI4.out.mono ?_; rintro e' w5 ⟨rfl, k5⟩; have HK5 : As (Kp [] w w5) := ⟨HK1.out.trans (HK14.out.trans k5 (by simp)) (by simp)⟩; have HR5 := As.mk ((HK24.out.trans k5 (by simp)).rd HR2.out (fun _ _ => by simp)); clear k5 HI4))
  go_loopw [7] (fun i wr => ∃ j : Nat, i = .int .i64 (j : Int) ∧ j ≤ n ∧ As (wr = w5) ∧ As (∀ x ∈ xs.take j, 0 ≤ x ∧ x ≤ 4611686018427387904)) (fun i _ => n - (intOf i).toNat)
  case atStart => exact ⟨0, rfl, by omega, ⟨rfl⟩, ⟨by simp⟩⟩
  case round =>
    obtain ⟨j, rfl, hj, ⟨rfl⟩, HV⟩ := hrel
    by_cases hlt : j < n
    · obtain ⟨a, rfl, d0⟩ := HR.out.int j (by rw [HL.out]; exact hlt)
      have d1 := HK5.out.cell d0 (by simp)
      obtain ⟨x, hx⟩ : ∃ x, xs[j]'(by rw [HL.out]; exact hlt) = x := ⟨_, rfl⟩
      rw [hx] at d1
      have HVX : As (0 ≤ x ∧ x ≤ 4611686018427387904 → ∀ y ∈ xs.take (j + 1), 0 ≤ y ∧ y ≤ 4611686018427387904) := ⟨by
        intro h y hy
        rw [take_succ' xs j (by rw [HL.out]; exact hlt), List.mem_append, List.mem_singleton] at hy
        rcases hy with hy | hy
        · exact HV.out y hy
        · rw [hy, hx]; exact h⟩
      clear d0 hx
      by_cases hx0 : x < 0
      · go_wp2_with (go_at_call 28; refine (known_any _).mono ?_; rintro e' w6 ⟨rfl, k6⟩; have HKE := As.mk (HK5.out.trans k6 (by simp)); clear k6)
        go_ret
        exact ⟨rfl, HKE.out.below⟩
      · by_cases hx1 : 4611686018427387904 < x
        · go_wp2_with (go_at_call 28; refine (known_any _).mono ?_; rintro e' w6 ⟨rfl, k6⟩; have HKE := As.mk (HK5.out.trans k6 (by simp)); clear k6)
          go_ret
          exact ⟨rfl, HKE.out.below⟩
        · have HV2 := As.mk (HVX.out ⟨by omega, by omega⟩)
          go_wp2
          go_roundw
          case rel => exact ⟨j + 1, by go_num, by omega, ⟨trivial⟩, HV2⟩
          case measure => simp [intOf]; omega
    · obtain rfl : j = n := by omega
      have htk : xs.take j = xs := List.take_of_length_le (by rw [HL.out]; exact Nat.le_refl _)
      rw [htk] at HV
      have HD := As.mk (dRep_rep HER.out HV.out)
      have HDE := As.mk (decRep_any A2 N c2 X wr HNV.out HR5.out HN2.out HWX.out (by omega))
      clear htk
      go_wp2_with (go_at_call 34; refine HDE.out.mono ?_; rintro e' w6 ⟨er', l', z', A6, n6, c6, hd, rfl, hl6, r6, h6, m6, k6⟩; rw [HXV.out, HD.out] at hd; simp only [Prod.mk.injEq] at hd; obtain ⟨rfl, rfl, rfl⟩ := hd; have HK6 : As (Kp [] w w6) := ⟨HK5.out.trans k6 (by simp)⟩; rw [← HTK.out] at hl6 r6; have hn6 : n6 = k := (by rw [← hl6, List.length_take, HL.out]; omega); subst hn6; have HR6 := As.mk r6; have HL6 := As.mk hl6; clear r6 m6 k6 hl6 HDE)
      have HSS : As (∀ w', Kp [] (w6.alloc (.cells #[.int .i64 er, .slice A6 n6 c6] 52)) w' → w'.cell? ⟨w6.heap.size, 0, none⟩ = some (.int .i64 er) ∧ w'.cell? ⟨w6.heap.size, 1, none⟩ = some (.slice A6 n6 c6)) := ⟨fun w' k' => ((RepAt.new w6 er (.slice A6 n6 c6)).kp k' (by simp)).cells⟩
      have HKW : As (Kp [] w (w6.alloc (.cells #[.int .i64 er, .slice A6 n6 c6] 52))) := ⟨HK6.out.alloc _⟩
      have HRW : As (Rd (w6.alloc (.cells #[.int .i64 er, .slice A6 n6 c6] 52)) A6 (iv .i64 (xs.take n6))) := ⟨((Kp.refl [] w6).alloc _).rd HR6.out (fun _ _ => by simp)⟩
      have HRV : As (Rd w A (iv .i64 (xs.take n6))) := ⟨by have h := HR.out.take n6; rwa [iv_take] at h⟩
      obtain ⟨W0, hW0⟩ : ∃ W0, W0 = w6.alloc (.cells #[.int .i64 er, .slice A6 n6 c6] 52) := ⟨_, rfl⟩
      rw [← hW0] at HSS HKW HRW ⊢
      have HI6 := As.mk (ints_self (A := A6) (B := A) (c := c6) (d := c) HL6.out ((Kp.refl [] W0).drew.rd HRW.out (fun _ _ => by simp)) (HKW.out.drew.rd_new HRV.out (by simp)) (by omega))
      have HK7 : As (Kp [] W0 W0.drew) := ⟨(Kp.refl [] W0).drew⟩
      clear hW0
      go_region_held3 (fun w' => w'.cell? ⟨w6.heap.size, 0, none⟩ = some (.int .i64 er) ∧ w'.cell? ⟨w6.heap.size, 1, none⟩ = some (.slice A6 n6 c6)) (first | exact HSS.out _ HK9.out | exact HSS.out _ HK8.out | exact HSS.out _ HK7.out) (first
        | (go_at_call 28; refine (known_any _).mono ?_; rintro e' w9 ⟨rfl, k9⟩; have HK9 : As (Kp [] W0 w9) := ⟨HK8.out.trans k9 (by simp)⟩; clear k9)
        | (go_at_call 33; refine HI6.out.mono ?_; rintro e' w8 ⟨rfl, k8⟩; have HK8 : As (Kp [] W0 w8) := ⟨HK7.out.trans k8 (by simp)⟩; clear k8))
      go_wp2
      go_ret
      exact ⟨rfl, (HKW.out.trans HK9.out (by simp)).below⟩

theorem reps_row (w : World) (er : Int) (_ : (Lit.int .i64 er).wf = true) (A : Option Addr) (n c : Nat) (xs : List Int) (hn : xs.length = n) (hr : Rd w A (iv .i64 xs)) (hc : n ≤ c) (_ : c ≤ 9223372036854775807) (hnil : A = none → c = 0) (_ : ∀ y ∈ xs, (Lit.int .i64 y).wf = true) (hz : n * 8 ≤ 140737488351232) :
    Calls Try.prog 9 #[.int .i64 er, .slice A n c] w fun e w' => e = .returned (.bool true) ∧ Below w.heap.size w w' :=
  reps_law w er A n c xs hn hr hc hnil (by omega)

end Go.Proofs.Ytlknlpiiogmfbaa.haystacklaw13
