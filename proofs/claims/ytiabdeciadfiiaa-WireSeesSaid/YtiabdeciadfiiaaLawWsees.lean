/- The walk of WireSees: a request's record that was changed, cut, or has something behind is refused. -/
import Derived.Test.YtiabdeciadfiiaaWireE
import Derived.Test.YtiabdeciadfiiaaWireK
import Derived.Test.YtiabdeciadfiiaaBase
namespace Go.Proofs.Ytiabdeciadfiiaa.wir
open Go.RowKit H O opk frame

theorem set_iv (k : IntKind) (xs : List Int) (j : Nat) (z : Int) : (iv k xs).set j (.int k z) = iv k (xs.set j z) := by simp [iv, List.map_set]

set_option maxHeartbeats 8000000 in
set_option maxRecDepth 100000 in
theorem wsees_law (kind ctx : Int) (A : Option Addr) (n c : Nat) (xs : List Int) (at_ by_ : Int) (w : World) (hn : xs.length = n) (hr : Rd w A (iv .u8 xs)) (hc : n ≤ c) (hnA : A = none → c = 0) (hw : Wf xs) (hby : 0 ≤ by_ ∧ by_ < 256) (hb : n ≤ 140737488351232) :
    Calls Try.prog 7 #[.int .i64 kind, .int .i64 ctx, .slice A n c, .int .i64 at_, .int .u8 by_] w fun e w' => e = .returned (.bool true) ∧ Below w.heap.size w w' := by
  by_cases h1 : (n : Int) > 1000
  · clear hr hn hw hby
    go_enter Try.func7, Try.ntmps7
    go_wp2
    go_ret
    exact ⟨rfl, (Kp.refl [] w).below⟩
  · by_cases h2 : by_ = 0
    · subst h2
      clear hr hn hw hby
      go_enter Try.func7, Try.ntmps7
      go_wp2
      go_ret
      exact ⟨rfl, (Kp.refl [] w).below⟩
    · have hb0 : (by_ == 0) = false := by simpa using h2
      have hn4 : n ≤ 1000 := by omega
      have HENC := encode_any kind ctx 0 A n c xs w hn hr hc hnA hw (by omega)
      by_cases hrq : rqOk kind ctx 0 = false
      · have HEN : As (Calls Try.prog 34 #[.agg #[.int .i64 kind, .int .i64 ctx, .int .i64 0, .slice A n c]] w fun e w' => e = .returned (.tuple #[.slice none 0 0, .int .i64 1]) ∧ Kp [] w w') := ⟨by
          refine HENC.mono ?_
          rintro e w' (⟨_, rfl, k⟩ | ⟨h, _⟩)
          · exact ⟨rfl, k⟩
          · rw [hrq] at h; cases h⟩
        clear HENC hr hn hw hby hrq h2
        go_enter Try.func7, Try.ntmps7
        go_wp2_with (first
          | (go_at_call 34; refine HEN.out.mono ?_; rintro e w1 ⟨rfl, k1⟩; have HK1 := As.mk k1; clear k1 HEN)
          | (go_at_call 35; refine (known_any _).mono ?_; rintro e w5 ⟨rfl, k5⟩; have HK5 : As (Kp [] w w5) := ⟨HK1.out.trans k5 (by simp)⟩; clear k5))
        go_ret
        exact ⟨rfl, HK5.out.below⟩
      · obtain ⟨p, hp⟩ : ∃ p, pay 113 [kind, ctx, 0] xs = p := ⟨_, rfl⟩
        have hpl : p.length ≤ 1100 := by have := pay_len 113 [kind, ctx, 0] xs (by simp); rw [← hp]; omega
        have hpw : Wf p := by rw [← hp]; exact pay_wf (by omega) hw
        obtain ⟨E, hE⟩ : ∃ E, E = fEnc p := ⟨_, rfl⟩
        obtain ⟨N, hNE⟩ : ∃ N, E.length = N := ⟨_, rfl⟩
        have hNp : N = p.length + 12 := by rw [← hNE, hE, fEnc_len]
        have hwE : Wf E := by rw [hE]; exact fEnc_wf hpw
        have hN0 : 0 < N := by omega
        have hN9 : N ≤ 2000 := by omega
        have hNi : (N : Int) ≠ 0 := by omega
        have hNb : ((N : Int) == 0) = false := by simpa using hNi
        have HEN : As (Calls Try.prog 34 #[.agg #[.int .i64 kind, .int .i64 ctx, .int .i64 0, .slice A n c]] w fun e w' => ∃ A1 c1, e = .returned (.tuple #[.slice A1 N c1, .int .i64 0]) ∧ Kp [] w w' ∧ Rd w' A1 (iv .u8 E) ∧ N ≤ c1 ∧ (A1 = none → c1 = 0)) := ⟨by
          refine HENC.mono ?_
          rintro e w' (⟨h, _⟩ | ⟨_, A1, c1, rfl, k1, j1, r1, g1, g1', n1⟩)
          · exact absurd h hrq
          · rw [hp] at g1 r1 ⊢
            rw [← hNp] at g1 ⊢
            rw [← hE] at r1
            exact ⟨A1, c1, rfl, k1, r1, g1, n1⟩⟩
        clear HENC
        obtain ⟨q, hq, hq30⟩ := mask30 at_
        obtain ⟨cut, hcut⟩ : ∃ cut, q % N = cut := ⟨_, rfl⟩
        have hcl : cut < N := by rw [← hcut]; exact Nat.mod_lt _ (by omega)
        have hcE : cut < E.length := by rw [hNE]; exact hcl
        have hcutI : (q : Int) % (N : Int) = (cut : Int) := by rw [← hcut]; simp
        obtain ⟨y, hy⟩ : ∃ y, E[cut] = y := ⟨_, rfl⟩
        have hyw := hwE E[cut] (List.getElem_mem hcE)
        obtain ⟨z, hz⟩ : ∃ z, bits .xor .u8 y by_ = z := ⟨_, rfl⟩
        have hxor := xor_u8 E[cut] by_ hyw hby h2
        rw [hy, hz] at hxor
        obtain ⟨e1, he1⟩ : ∃ e1, (fOne (E.take cut)).2 = e1 := ⟨_, rfl⟩
        have hne1 : e1 ≠ 0 := by rw [← he1, hE]; exact one_torn cut (by omega) (by omega)
        obtain ⟨e2, he2⟩ : ∃ e2, (fOne (E.set cut z)).2 = e2 := ⟨_, rfl⟩
        have hne2 : e2 ≠ 0 := by
          rw [← he2]
          subst hE
          exact one_sees (by omega) hpw hcE hxor.1 (by rw [hy]; exact hxor.2)
        have hws : Wf (E.set cut z) := fun x hx => by
          rcases List.mem_or_eq_of_mem_set hx with h | h
          · exact hwE x h
          · rw [h]; exact hxor.1
        have he3 : (fOne (E ++ [0])).2 = 3 := by rw [hE]; exact one_more (by omega)
        have he4 : fOne E = (113 :: (nums [kind, ctx, 0] ++ row xs), 0) := by rw [hE, one_same (by omega), ← hp, pay_cons]
        rw [pay_cons] at hp
        obtain ⟨M, hM⟩ : ∃ M, M = N + 1 := ⟨_, rfl⟩
        have HD1 : As (∀ wX A1 c1, Rd wX A1 (iv .u8 E) → N ≤ c1 → Calls Try.prog 36 #[.slice A1 cut c1] wX fun e w' => e = .returned (.tuple #[.agg #[.int .i64 0, .int .i64 0, .int .i64 0, .slice none 0 0], .int .i64 e1]) ∧ Kp [] wX w') := ⟨fun wX A1 c1 r1 g1 => decode_err A1 cut c1 (E.take cut) e1 wX (by rw [List.length_take]; omega) (by rw [← iv_take]; exact r1.take cut) (by omega) (hwE.take cut) (by omega) he1 hne1⟩
        have HD2 : As (∀ wX A1 c1, Rd wX A1 (iv .u8 (E.set cut z)) → N ≤ c1 → Calls Try.prog 36 #[.slice A1 N c1] wX fun e w' => e = .returned (.tuple #[.agg #[.int .i64 0, .int .i64 0, .int .i64 0, .slice none 0 0], .int .i64 e2]) ∧ Kp [] wX w') := ⟨fun wX A1 c1 r1 g1 => decode_err A1 N c1 (E.set cut z) e2 wX (by rw [List.length_set]; exact hNE) r1 g1 hws (by omega) he2 hne2⟩
        have HD3 : As (∀ wX A1 c1, Rd wX A1 (iv .u8 (E ++ [0])) → M ≤ c1 → Calls Try.prog 36 #[.slice A1 M c1] wX fun e w' => e = .returned (.tuple #[.agg #[.int .i64 0, .int .i64 0, .int .i64 0, .slice none 0 0], .int .i64 3]) ∧ Kp [] wX w') := ⟨fun wX A1 c1 r1 g1 => decode_err A1 M c1 (E ++ [0]) 3 wX (by rw [List.length_append, hNE, hM]; rfl) r1 g1 (wf_app hwE (by intro x hx; simp at hx; omega)) (by omega) he3 (by decide)⟩
        have HD4 : As (∀ wX A1 c1, Rd wX A1 (iv .u8 E) → N ≤ c1 → Calls Try.prog 37 #[.slice A1 N c1] wX fun e w' => e = .returned (.tuple #[.agg #[.int .i64 0, .int .i64 0, .int .i64 0, .slice none 0 0], .int .i64 3]) ∧ Kp [] wX w') := ⟨fun wX A1 c1 r1 g1 => reply_mark A1 N c1 E 113 (nums [kind, ctx, 0] ++ row xs) wX hNE r1 g1 hwE (by omega) he4 (by rw [hp]; exact hpw) (by rw [hp]; omega) (by decide)⟩
        have HSL : As (∀ A1 c1, N ≤ c1 → (A1 = none → c1 = 0) → ∀ W, (Instr.slice 26 (.slice A1 N c1) none (some (.int .i64 (cut : Int))) none).run Try.prog W = .ok (.slice A1 cut c1) W) := ⟨fun A1 c1 g1 n1 => slice_head ht8 hz8 A1 N c1 cut (by omega) n1⟩
        have heb1 : (e1 != 0) = true := by simpa using hne1
        have heb2 : (e2 != 0) = true := by simpa using hne2
        have HNE := As.mk hNE
        have HE2 : As (E[cut]? = some y) := ⟨by rw [List.getElem?_eq_getElem hcE, hy]⟩
        have HM := As.mk hM
        have hM9 : M ≤ 2001 := by omega
        clear hr hn hw hby hE hNE hNp hwE hcE hy hyw hxor he1 he2 he3 he4 hne1 hne2 hws hM hnA h2 hp hpl hpw hrq
        go_enter Try.func7, Try.ntmps7
        go_wp2_with (first
          | (go_at_call 34; refine HEN.out.mono ?_; rintro e w1 ⟨A1, c1, rfl, k1, r1, g1, n1⟩; have HK1 := As.mk k1; have HR1 := As.mk r1; have HN1 := As.mk n1; have hsl := HSL.out A1 c1 g1 n1; clear k1 r1 n1 HEN)
          | (go_at_call 36; refine (HD1.out w1 A1 c1 HR1.out g1).mono ?_; rintro e w2 ⟨rfl, k2⟩; have HK2 : As (Kp [] w1 (w2.alloc (.cells #[.int .i64 0, .int .i64 0, .int .i64 0, .slice none 0 0] 68))) := ⟨k2.alloc _⟩; clear k2 HD1)
          | (at_builtin; have oz : (((w2.alloc (.cells #[.int .i64 0, .int .i64 0, .int .i64 0, .slice none 0 0] 68)).alloc (.cells #[] 5))).ownsRow 0 5 1 (.slice (some ⟨w2.heap.size + 1, 0, none⟩) 0 0) 0 [] := (by have h := own_new (w2.alloc (.cells #[.int .i64 0, .int .i64 0, .int .i64 0, .slice none 0 0] 68)) [] 5 (by simp); rw [World.size_alloc] at h; exact h); refine clone.app8 rfl (.tmp 56) (.tmp 57) rfl (.slice (some ⟨w2.heap.size + 1, 0, none⟩) 0 0) 0 [] rfl oz A1 N c1 (iv .u8 E) rfl (by rw [iv_len, HNE.out]) ((HK2.out.alloc _).rd_new HR1.out (by simp)) HN1.out (iv_one _ _) (by omega) ?_; intro v3 w3 o3 k3 a3; have o3' : w3.ownsRow 0 5 1 v3 N (iv .u8 E) := (by simpa using o3); obtain ⟨g3, c3, rfl, hc3, hc3'⟩ := own_form o3' hN0; have HK3 : As (Kp [] w1 w3) := ⟨(HK2.out.alloc _).trans k3 (by intro x hx; simp [Value.ownBlock] at hx; have h9 := HK2.out.size; simp at h9; right; omega)⟩; have HG3 : As (w1.heap.size ≤ g3) := ⟨a3.ge (by have h9 := HK2.out.size; simp at h9 ⊢; omega) (by intro x hx; simp [Value.ownBlock] at hx; have h9 := HK2.out.size; simp at h9; omega) g3 rfl⟩; obtain ⟨-, fr, st⟩ := own_store o3' cut hcl (.int .u8 z); have hd : w3.cell? ⟨g3, cut, none⟩ = some (.int .u8 y) := (by obtain ⟨A9, c9, hv9, _, _, h9, _⟩ := own_rd o3'; cases hv9; obtain ⟨a9, ha9, hc9⟩ := h9 cut (.int .u8 y) (by simp [iv, HE2.out]); cases ha9; rw [Addr.add_lit, Nat.zero_add] at hc9; exact hc9); have hfr := fr; have HST : As (Rd (w3.setCell ⟨g3, cut, none⟩ (.int .u8 z)) (some ⟨g3, 0, none⟩) (iv .u8 (E.set cut z))) := ⟨by rw [← set_iv]; obtain ⟨A9, c9, hv9, _, _, h9, _⟩ := own_rd st; cases hv9; exact h9⟩; have HK3' : As (Kp [] w1 (w3.setCell ⟨g3, cut, none⟩ (.int .u8 z))) := ⟨HK3.out.setCell (.inr HG3.out) _⟩; clear o3 o3' k3 a3 fr st oz)
          | (go_at_call 36; refine (HD2.out _ _ c3 HST.out hc3).mono ?_; rintro e w5 ⟨rfl, k5⟩; have HK5 : As (Kp [] w1 (w5.alloc (.cells #[.int .i64 0, .int .i64 0, .int .i64 0, .slice none 0 0] 68))) := ⟨(HK3'.out.trans k5 (by simp)).alloc _⟩; clear k5 HD2)
          | (at_builtin; have oz : (((w5.alloc (.cells #[.int .i64 0, .int .i64 0, .int .i64 0, .slice none 0 0] 68)).alloc (.cells #[] 5))).ownsRow 0 5 1 (.slice (some ⟨w5.heap.size + 1, 0, none⟩) 0 0) 0 [] := (by have h := own_new (w5.alloc (.cells #[.int .i64 0, .int .i64 0, .int .i64 0, .slice none 0 0] 68)) [] 5 (by simp); rw [World.size_alloc] at h; exact h); refine clone.app8 rfl (.tmp 72) (.tmp 73) rfl (.slice (some ⟨w5.heap.size + 1, 0, none⟩) 0 0) 0 [] rfl oz A1 N c1 (iv .u8 E) rfl (by rw [iv_len, HNE.out]) ((HK5.out.alloc _).rd_new HR1.out (by simp)) HN1.out (iv_one _ _) (by omega) ?_; intro v6 w6 o6 k6 a6; have o6' : w6.ownsRow 0 5 1 v6 N (iv .u8 E) := (by simpa using o6); obtain ⟨g6, c6, rfl, hc6, hc6'⟩ := own_form o6' hN0; have HK6 : As (Kp [] w1 w6) := ⟨(HK5.out.alloc _).trans k6 (by intro x hx; simp [Value.ownBlock] at hx; have h9 := HK5.out.size; simp at h9; right; omega)⟩; have HG6 : As (w1.heap.size ≤ g6) := ⟨a6.ge (by have h9 := HK5.out.size; simp at h9 ⊢; omega) (by intro x hx; simp [Value.ownBlock] at hx; have h9 := HK5.out.size; simp at h9; omega) g6 rfl⟩; have HO6 := As.mk o6'; clear o6 o6' k6 a6 oz)
          | (at_builtin; refine clone.app8_one rfl (.tmp 74) (.tmp 75) rfl (.slice (some ⟨g6, 0, none⟩) N c6) N (iv .u8 E) rfl HO6.out 0 rfl (by omega) ?_; intro v7 w7 o7 k7 a7; have o7' : w7.ownsRow 0 5 1 v7 M (iv .u8 (E ++ [0])) := (by rw [HM.out, iv_app]; exact o7); obtain ⟨A7, c7, rfl, hc7, hc7', r7, _⟩ := own_rd o7'; have HR7 := As.mk r7; have HK7 : As (Kp [] w1 w7) := ⟨(HK6.out.alloc _).trans k7 (by intro x hx; simp [Value.ownBlock] at hx; have := HG6.out; right; omega)⟩; clear o7 o7' k7 a7 r7)
          | (go_at_call 36; refine (HD3.out w7 A7 c7 HR7.out hc7).mono ?_; rintro e w8 ⟨rfl, k8⟩; have HK8 : As (Kp [] w1 (w8.alloc (.cells #[.int .i64 0, .int .i64 0, .int .i64 0, .slice none 0 0] 68))) := ⟨(HK7.out.trans k8 (by simp)).alloc _⟩; have HR8 := As.mk (HD4.out (w8.alloc (.cells #[.int .i64 0, .int .i64 0, .int .i64 0, .slice none 0 0] 68)) A1 c1 (HK8.out.rd_new HR1.out (by simp)) g1); clear k8 HD3 HD4)
          | (go_at_call 37; refine HR8.out.mono ?_; rintro e w9 ⟨rfl, k9⟩; have HK9 : As (Kp [] w1 (w9.alloc (.cells #[.int .i64 0, .int .i64 0, .int .i64 0, .slice none 0 0] 72))) := ⟨(HK8.out.trans k9 (by simp)).alloc _⟩; clear k9 HR8)
          | (go_at_call 35; refine (known_any _).mono ?_; rintro e wk ⟨rfl, kk⟩; have HKK : As (Kp [] w wk) := ⟨HK1.out.trans (HK9.out.trans kk (by simp)) (by simp)⟩; clear kk))
        go_ret
        exact ⟨rfl, HKK.out.below⟩

theorem wsees_row (w : World) (kind : Int) (_ : (Lit.int .i64 kind).wf = true) (ctx : Int) (_ : (Lit.int .i64 ctx).wf = true) (A : Option Addr) (n c : Nat) (p : List Int) (hn : p.length = n) (hr : Rd w A (iv .u8 p)) (hc : n ≤ c) (_ : c ≤ 9223372036854775807) (hnA : A = none → c = 0) (hw : ∀ y ∈ p, (Lit.int .u8 y).wf = true) (hz : n * 1 ≤ 140737488351232)
    (at_ : Int) (_ : (Lit.int .i64 at_).wf = true) (by_ : Int) (hby : (Lit.int .u8 by_).wf = true) :
    Calls Try.prog 7 #[.int .i64 kind, .int .i64 ctx, .slice A n c, .int .i64 at_, .int .u8 by_] w fun e w' => e = .returned (.bool true) ∧ Below w.heap.size w w' :=
  wsees_law kind ctx A n c p at_ by_ w hn hr hc hnA (fun x hx => wf_u8 (hw x hx)) (wf_u8 hby) (by omega)
end Go.Proofs.Ytiabdeciadfiiaa.wir
