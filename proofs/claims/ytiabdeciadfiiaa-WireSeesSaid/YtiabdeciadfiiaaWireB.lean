/- wire.read, wire.Decode, wire.DecodeReply where they refuse. -/
import Derived.Test.YtiabdeciadfiiaaWireA
import Derived.Test.YtiabdeciadfiiaaFrameD
import Derived.Test.YtiabdeciadfiiaaBase
namespace Go.Proofs.Ytiabdeciadfiiaa.wir
open Go.RowKit H O opk frame

set_option maxHeartbeats 4000000 in
set_option maxRecDepth 100000 in
/-- bytes that are no record -/
theorem read_err (A : Option Addr) (n c : Nat) (xs : List Int) (mark most : Int) (T : Value) (er : Int) (w : World) (hn : xs.length = n) (hr : Rd w A (iv .u8 xs)) (hc : n ≤ c) (hw : Wf xs) (hm : n ≤ 140737488351232) (he : (fOne xs).2 = er) (h0 : er ≠ 0) :
    Calls Try.prog 65 #[.slice A n c, .int .u8 mark, .int .i64 most, T] w fun e w' => e = .returned (.tuple #[.slice none 0 0, .int .i64 er]) ∧ Kp [] w w' := by
  have H1 : As (Calls Try.prog 84 #[.slice A n c] w fun e w' => ∃ A1 n1 c1, e = .returned (.tuple #[.slice A1 n1 c1, .int .i64 er]) ∧ Kp [] w w') := ⟨by
    refine (one_any A n c xs w hn hr hc hw hm).mono ?_
    rintro e w' ⟨v, rfl, o, k⟩
    obtain ⟨A1, c1, rfl, _⟩ := own_rd o.1
    rw [he]
    exact ⟨A1, _, c1, rfl, k⟩⟩
  have bne : (er == 0) = false := by simpa using h0
  clear hn hr hc hw hm he h0
  go_enter Try.func65, Try.ntmps65
  go_wp2_with (go_at_call 84; refine H1.out.mono ?_; rintro e w1 ⟨A1, n1, c1, rfl, k1⟩; have HK1 := As.mk k1; clear k1 H1)
  go_ret2
  exact ⟨rfl, HK1.out⟩

set_option maxHeartbeats 4000000 in
set_option maxRecDepth 100000 in
/-- another one's record -/
theorem read_mark (A : Option Addr) (n c : Nat) (xs : List Int) (mark most : Int) (T : Value) (mk : Int) (r : List Int) (w : World) (hn : xs.length = n) (hr : Rd w A (iv .u8 xs)) (hc : n ≤ c) (hw : Wf xs) (hm : n ≤ 140737488351232) (he : fOne xs = (mk :: r, 0)) (hp : Wf (mk :: r)) (hl : (mk :: r).length ≤ 1100000) (h0 : mk ≠ mark) :
    Calls Try.prog 65 #[.slice A n c, .int .u8 mark, .int .i64 most, T] w fun e w' => e = .returned (.tuple #[.slice none 0 0, .int .i64 3]) ∧ Kp [] w w' := by
  obtain ⟨N, hN⟩ : ∃ N, (mk :: r).length = N := ⟨_, rfl⟩
  rw [hN] at hl
  have H1 : As (Calls Try.prog 84 #[.slice A n c] w fun e w' => ∃ A1 c1, e = .returned (.tuple #[.slice A1 N c1, .int .i64 0]) ∧ Rd w' A1 (iv .u8 (mk :: r)) ∧ (A1 = none → c1 = 0) ∧ Kp [] w w') := ⟨by
    refine (one_any A n c xs w hn hr hc hw hm).mono ?_
    rintro e w' ⟨v, rfl, o, k⟩
    rw [he] at o ⊢
    obtain ⟨A1, c1, rfl, _, _, r1, n1⟩ := own_rd o.1
    rw [hN]
    exact ⟨A1, c1, rfl, r1, n1, k⟩⟩
  have H2 : As (∀ wX A1 c1, Rd wX A1 (iv .u8 (mk :: r)) → (A1 = none → c1 = 0) → Calls Try.prog 46 #[.slice A1 N c1] wX (reader.NewRdr (mk :: r) wX)) := ⟨fun wX A1 c1 r1 n1 => reader.new_any A1 N c1 (mk :: r) wX hN r1 n1 (by omega) hp⟩
  have H3 : As (∀ wX b g, reader.Rdr wX b g (some (mk :: r)) → Calls Try.prog 82 #[.pointer (some ⟨b, 0, none⟩), .int .i64 1] wX fun e w' => ∃ gv c1, e = .returned (.slice (some ⟨gv, 0, none⟩) 1 c1) ∧ w'.cell? ⟨gv, 0, none⟩ = some (.int .u8 mk) ∧ Kp [b] wX w') := ⟨fun wX b g h => by
    have hst : O.stRaw 1 (some (mk :: r)) = ([mk], some r) := by
      rw [O.stRaw]
      rw [if_neg (by simp only [List.length_cons]; omega)]
      rfl
    have := reader.raw_any b g (some (mk :: r)) 1 wX h (by simp only [left, Option.getD_some]; omega)
    rw [hst] at this
    refine this.mono ?_
    rintro e w' ⟨v, rfl, o, g', _, _, k⟩
    obtain ⟨gv, cp, rfl, _⟩ := own_form o.1 (by simp)
    refine ⟨gv, cp, rfl, ?_, k⟩
    have := o.1.cellAt 0 (by simp)
    rw [show (iv .u8 [mk])[0]? = some (.int .u8 mk) from rfl] at this
    simpa using this⟩
  have bmk : (mk == mark) = false := by simpa using h0
  clear hN hn hr hc hw hm he hp h0
  go_enter Try.func65, Try.ntmps65
  go_wp2_with (first
    | (go_at_call 84; refine H1.out.mono ?_; rintro e w1 ⟨A1, c1, rfl, r1, n1, k1⟩; have HK1 := As.mk k1; have HN1 := As.mk (H2.out w1 A1 c1 r1 n1); clear k1 r1 n1 H1 H2)
    | (go_at_call 46; refine HN1.out.mono ?_; rintro e w2 ⟨b, g, rfl, R, hb, _, k2⟩; have HB := As.mk (Nat.le_trans HK1.out.size hb); have HK2 : As (Kp [] w w2) := ⟨HK1.out.trans k2 (by simp)⟩; have HRA := As.mk (H3.out w2 b g R); clear R hb k2 HN1 H3)
    | (go_at_call 82; refine HRA.out.mono ?_; rintro e w3 ⟨gv, c3, rfl, d3, k3⟩; have HK3 : As (Kp [] w w3) := ⟨HK2.out.trans k3 (by intro x hx; simp at hx; subst hx; exact .inr HB.out)⟩; clear k3 HRA))
  go_ret2
  exact ⟨rfl, HK3.out⟩
end Go.Proofs.Ytiabdeciadfiiaa.wir
