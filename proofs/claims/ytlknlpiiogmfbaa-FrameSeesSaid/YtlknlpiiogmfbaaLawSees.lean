/- The walk of FrameSees: a record of which one byte is another one is refused. -/
import Derived.Test.YtlknlpiiogmfbaaKnown8
import Derived.Test.YtlknlpiiogmfbaaFrameS
import Derived.Test.YtlknlpiiogmfbaaCuts
import Derived.Test.YtlknlpiiogmfbaaOpen
namespace Go.Proofs.Ytlknlpiiogmfbaa.haystacklaw8
open Go.RowKit H O joins frame

theorem set_iv (k : IntKind) (xs : List Int) (j : Nat) (z : Int) : (iv k xs).set j (.int k z) = iv k (xs.set j z) := by simp [iv, List.map_set]

set_option maxHeartbeats 8000000 in
set_option maxRecDepth 100000 in
theorem sees_law (A : Option Addr) (n c : Nat) (p : List Int) (hn : p.length = n) (B : Option Addr) (m d : Nat) (r : List Int) (hm : r.length = m) (at_ by_ : Int) (w : World) (hr : Rd w A (iv .u8 p)) (hr2 : Rd w B (iv .u8 r))
    (hc : n ≤ c) (hnA : A = none → c = 0) (hnB : B = none → d = 0) (hw : Wf p) (hw2 : Wf r) (hb : n ≤ 140737488351232) (hb2 : m ≤ 140737488351232) (hby : 0 ≤ by_ ∧ by_ < 256) :
    Calls Try.prog 3 #[.slice A n c, .slice B m d, .int .i64 at_, .int .u8 by_] w fun e w' => e = .returned (.bool true) ∧ Below w.heap.size w w' := by
  by_cases h1 : (n : Int) + m > 4000
  · clear hr hr2 hn hm hw hw2 hby
    go_enter Try.func3, Try.ntmps3
    go_wp2
    go_ret
    exact ⟨rfl, (Kp.refl [] w).below⟩
  · by_cases h2 : by_ = 0
    · subst h2
      clear hr hr2 hn hm hw hw2 hby
      go_enter Try.func3, Try.ntmps3
      go_wp2
      go_ret
      exact ⟨rfl, (Kp.refl [] w).below⟩
    · have hb0 : (by_ == 0) = false := by simpa using h2
      have hn4 : n ≤ 4000 := by omega
      have hm4 : m ≤ 4000 := by omega
      obtain ⟨E, hE⟩ : ∃ E, E = fEnc p := ⟨_, rfl⟩
      obtain ⟨N, hN⟩ : ∃ N, N = n + 12 := ⟨_, rfl⟩
      have hNE : E.length = N := by rw [hE, fEnc_len, hn, hN]
      have hwE : Wf E := by rw [hE]; exact fEnc_wf hw
      have hN0 : 0 < N := by omega
      have hN9 : N ≤ 4012 := by omega
      have hNi : (N : Int) ≠ 0 := by omega
      have hNb : ((N : Int) == 0) = false := by simpa using hNi
      have HEN : As (Calls Try.prog 13 #[.slice (some ⟨w.heap.size, 0, none⟩) 1 1] (w.alloc (.cells #[.slice A n c] 22)) fun e w' => ∃ A1 c1, e = .returned (.tuple #[.slice A1 N c1, .int .i64 0]) ∧ Kp [] w w' ∧ Rd w' A1 (iv .u8 E) ∧ N ≤ c1 ∧ (A1 = none → c1 = 0)) := ⟨by
        have h := enc_any (some ⟨w.heap.size, 0, none⟩) 1 1 [p] (w.alloc (.cells #[.slice A n c] 22)) rfl (rs_cell w A p n c hn hc hnA 22 (RdS.new hr (Kp.refl _ _) (by simp)) (by simp)) (Nat.le_refl _)
          (by intro x hx; simp only [List.mem_singleton] at hx; subst hx; exact hw) (by simp; omega) (by decide)
        rw [show [p].flatten = p from by simp] at h
        refine h.mono ?_
        rintro e w' ⟨A1, c1, rfl, k1, j1, r1, g1, g1', n1⟩
        rw [hn, ← hN] at g1 ⊢
        rw [← hE] at r1
        exact ⟨A1, c1, rfl, ((Kp.refl [] w).alloc _).trans k1 (by simp), r1, g1, n1⟩⟩
      obtain ⟨q, hq, hq30⟩ := mask30 at_
      obtain ⟨cut, hcut⟩ : ∃ cut, q % N = cut := ⟨_, rfl⟩
      have hcl : cut < N := by rw [← hcut]; exact Nat.mod_lt _ (by omega)
      have hcE : cut < E.length := by rw [hNE]; exact hcl
      obtain ⟨y, hy⟩ : ∃ y, E[cut] = y := ⟨_, rfl⟩
      have hyw := hwE E[cut] (List.getElem_mem hcE)
      obtain ⟨z, hz⟩ : ∃ z, bits .xor .u8 y by_ = z := ⟨_, rfl⟩
      have hxor := xor_u8 E[cut] by_ hyw hby h2
      rw [hy, hz] at hxor
      have hsee : ∃ e, fDec (E.set cut z ++ r) = ([], 0, e) ∧ e ≠ 0 := by
        subst hE
        exact fDec_sees (by omega) hw hcE hxor.1 (by rw [hy]; exact hxor.2)
      obtain ⟨ee, he1, he2⟩ := hsee
      have heb : (ee != 0) = true := by simpa using he2
      have hws : Wf (E.set cut z ++ r) := wf_app (fun x hx => by rcases List.mem_or_eq_of_mem_set hx with h | h; exact hwE x h; rw [h]; exact hxor.1) hw2
      obtain ⟨L, hL⟩ : ∃ L, L = N + m := ⟨_, rfl⟩
      have HDE : As (∀ A2 c2 wX, L ≤ c2 → Rd wX A2 (iv .u8 (E.set cut z ++ r)) → Calls Try.prog 14 #[.slice A2 L c2] wX fun e w' => ∃ A3 c3, e = .returned (.tuple #[.slice A3 0 c3, .int .i64 0, .int .i64 ee]) ∧ Kp [] wX w') := ⟨fun A2 c2 wX g2 r2 => by
        refine (dec_any A2 L c2 (E.set cut z ++ r) wX (by rw [List.length_append, List.length_set, hNE, hm, hL]) r2 g2 hws (by omega)).mono ?_
        rintro e w' ⟨v, rfl, O, K⟩
        rw [he1] at O
        obtain ⟨A3, c3, rfl, _⟩ := own_rd O.1
        exact ⟨A3, c3, by rw [he1]; rfl, K⟩⟩
      have HR2 := As.mk hr2
      have HM := As.mk hm
      have HNB := As.mk hnB
      have HNE := As.mk hNE
      have HE2 : As (E[cut]? = some y) := ⟨by rw [List.getElem?_eq_getElem hcE, hy]⟩
      have HL := As.mk hL
      clear hr hr2 hn hm hw hw2 hby hE hN hwE hcE hy hyw hxor he1 he2 hws hL hnA hnB h2
      go_enter Try.func3, Try.ntmps3
      go_wp2_with (first
        | (go_at_call 13; refine HEN.out.mono ?_; rintro e w1 ⟨A1, c1, rfl, k1, r1, g1, n1⟩; have HK1 := As.mk k1; have HR1 := As.mk r1; have HN1 := As.mk n1; clear k1 r1 n1 HEN)
        | (at_builtin; refine clone.app8 rfl (.tmp 52) (.tmp 53) rfl (.slice (some ⟨g2, 0, none⟩) N c2) N (iv .u8 (E.set cut z)) rfl HST.out B m d (iv .u8 r) rfl (by rw [iv_len, HM.out]) (HK2'.out.rd_new HR2.out (by simp)) HNB.out (iv_one _ _) (by omega) ?_; intro v3 w3 o3 k3 a3; rw [← iv_app, ← HL.out] at o3; obtain ⟨A3, c3, rfl, hc3, hc3', R3, _⟩ := own_rd o3; have HR3 := As.mk R3; have HK3 : As (Kp [] w w3) := ⟨HK2'.out.row k3 (by intro x hx; simp [Value.ownBlock] at hx; have := HG2.out; omega)⟩; clear o3 k3 a3 R3)
        | (at_builtin; refine clone.app8 rfl (.tmp 37) (.tmp 38) rfl (.slice (some ⟨w1.heap.size, 0, none⟩) 0 0) 0 [] rfl (own_new w1 [] _ (Nat.zero_le _)) A1 N c1 (iv .u8 E) rfl (by rw [iv_len, HNE.out]) (((Kp.refl [] w1).alloc _).rd_new HR1.out (by simp)) HN1.out (iv_one _ _) (by omega) ?_; intro v2 w2 o2 k2 a2; have o2' : w2.ownsRow 0 5 1 v2 N (iv .u8 E) := (by simpa using o2); obtain ⟨g2, c2, rfl, hc2, hc2'⟩ := own_form o2' hN0; have HK2 : As (Kp [] w w2) := ⟨HK1.out.trans (kp_of_new k2) (by simp)⟩; have HG2 : As (w.heap.size ≤ g2) := ⟨a2.ge (by have := HK1.out.size; simp; omega) (by intro x hx; simp [Value.ownBlock] at hx; have := HK1.out.size; omega) g2 rfl⟩; obtain ⟨-, fr, st⟩ := own_store o2' cut hcl (.int .u8 z); have hd : w2.cell? ⟨g2, cut, none⟩ = some (.int .u8 y) := (by obtain ⟨A9, c9, hv9, _, _, h9, _⟩ := own_rd o2'; cases hv9; obtain ⟨a9, ha9, hc9⟩ := h9 cut (.int .u8 y) (by simp [iv, HE2.out]); cases ha9; rw [Addr.add_lit, Nat.zero_add] at hc9; exact hc9); have hfr := fr; have HST : As ((w2.setCell ⟨g2, cut, none⟩ (.int .u8 z)).ownsRow 0 5 1 (.slice (some ⟨g2, 0, none⟩) N c2) N (iv .u8 (E.set cut z))) := ⟨by rw [← set_iv]; exact st⟩; have HK2' : As (Kp [] w (w2.setCell ⟨g2, cut, none⟩ (.int .u8 z))) := ⟨HK2.out.setCell (.inr HG2.out) _⟩; clear o2 o2' k2 a2 fr st)
        | (go_at_call 14; refine (HDE.out A3 c3 w3 hc3 HR3.out).mono ?_; rintro e w4 ⟨A4, c4, rfl, k4⟩; have HK4 : As (Kp [] w w4) := ⟨HK3.out.trans k4 (by simp)⟩; clear k4)
        | (go_at_call 15; refine (known_any _).mono ?_; rintro e w5 ⟨rfl, k5⟩; have HK5 : As (Kp [] w w5) := ⟨HK4.out.trans k5 (by simp)⟩; clear k5))
      go_ret
      exact ⟨rfl, HK5.out.below⟩

theorem sees_row (w : World) (A : Option Addr) (n c : Nat) (p : List Int) (hn : p.length = n) (hr : Rd w A (iv .u8 p)) (hc : n ≤ c) (_ : c ≤ 9223372036854775807) (hnA : A = none → c = 0) (hw : ∀ y ∈ p, (Lit.int .u8 y).wf = true) (hz : n * 1 ≤ 140737488351232)
    (B : Option Addr) (m d : Nat) (r : List Int) (hm : r.length = m) (hr2 : Rd w B (iv .u8 r)) (_ : m ≤ d) (_ : d ≤ 9223372036854775807) (hnB : B = none → d = 0) (hw2 : ∀ y ∈ r, (Lit.int .u8 y).wf = true) (hz2 : m * 1 ≤ 140737488351232)
    (at_ : Int) (_ : (Lit.int .i64 at_).wf = true) (by_ : Int) (hby : (Lit.int .u8 by_).wf = true) :
    Calls Try.prog 3 #[.slice A n c, .slice B m d, .int .i64 at_, .int .u8 by_] w fun e w' => e = .returned (.bool true) ∧ Below w.heap.size w w' :=
  sees_law A n c p hn B m d r hm at_ by_ w hr hr2 hc hnA hnB (fun x hx => wf_u8 (hw x hx)) (fun x hx => wf_u8 (hw2 x hx)) (by omega) (by omega) (wf_u8 hby)

end Go.Proofs.Ytlknlpiiogmfbaa.haystacklaw8
