/- wire.Wrap; wire.Unwrap of known bytes; haystacklaw22.known. -/
import Derived.Test.YtiabdeciadfiiaaWireC
import Derived.Test.YtiabdeciadfiiaaBase
import Derived.Lib.SlBytesConst
namespace Go.Proofs.Ytiabdeciadfiiaa.wir
open Go.RowKit H O opk frame

/-- bytes that were there before, on the Writer -/
theorem wr_raw {w wr : World} {b : Nat} {ys : List Int} (h : MW w b ys wr) (A : Option Addr) (n c : Nat) (xs : List Int) (hn : xs.length = n) (hr : Rd w A (iv .u8 xs)) (hnil : A = none → c = 0) (hy : ys.length ≤ 1000000) (hm : n ≤ 1000000) :
    Calls Try.prog 79 #[.pointer (some ⟨b, 0, none⟩), .slice A n c] wr fun e w' => e = .returned (.tuple #[]) ∧ MW w b (ys ++ xs) w' := by
  obtain ⟨g, h1, h2⟩ := h.wr
  refine (writer.raw_any b g ys A n c xs wr h1 hn (h.kp.rd_new hr (by simp)) hnil (by omega)).mono ?_
  rintro e w' ⟨rfl, g', W, A, K⟩
  exact ⟨rfl, h.next h2 W A K⟩
set_option maxHeartbeats 4000000 in
set_option maxRecDepth 100000 in
theorem wrap_any (x : Int) (A : Option Addr) (n c : Nat) (xs : List Int) (w : World) (hn : xs.length = n) (hr : Rd w A (iv .u8 xs)) (hnil : A = none → c = 0) (hn9 : n ≤ 100000) :
    Calls Try.prog 63 #[.int .i64 x, .slice A n c] w (RetOwn 5 .u8 w ([] ++ [103] ++ num x ++ xs)) := by
  have hl := num_len x
  have H1 : As (Calls Try.prog 79 #[.pointer (some ⟨w.heap.size, 0, none⟩), .slice (some ⟨w.heap.size + 1, 0, none⟩) 1 1] ((w.alloc (.cells #[.slice none 0 0] 79)).alloc (.cells #[.int .u8 103] 5)) fun e w' => e = .returned (.tuple #[]) ∧ MW w w.heap.size ([] ++ [103]) w') := ⟨by
    have := wr_byte (MW.new w) 103 (by simp)
    rw [World.size_alloc] at this
    exact this⟩
  have H2 : As (∀ w1, MW w w.heap.size ([] ++ [103]) w1 → Calls Try.prog 39 #[.pointer (some ⟨w.heap.size, 0, none⟩), .slice (some ⟨w1.heap.size, 0, none⟩) 1 1] (w1.alloc (.cells #[.int .i64 x] 3)) fun e w' => e = .returned (.tuple #[]) ∧ MW w w.heap.size ([] ++ [103] ++ num x) w') := ⟨fun w1 h1 => mat_num h1 x (by simp)⟩
  have H3 : As (∀ w1, MW w w.heap.size ([] ++ [103] ++ num x) w1 → Calls Try.prog 79 #[.pointer (some ⟨w.heap.size, 0, none⟩), .slice A n c] w1 fun e w' => e = .returned (.tuple #[]) ∧ MW w w.heap.size ([] ++ [103] ++ num x ++ xs) w') := ⟨fun w1 h1 => wr_raw h1 A n c xs hn hr hnil (by simp only [List.length_append, List.length_nil, List.length_singleton]; omega) (by omega)⟩
  have H4 : As (∀ w1, MW w w.heap.size ([] ++ [103] ++ num x ++ xs) w1 → Calls Try.prog 41 #[.pointer (some ⟨w.heap.size, 0, none⟩)] w1 (fun e w' => ∃ v, e = .returned v ∧ As (Own 5 .u8 w' w.heap.size v ([] ++ [103] ++ num x ++ xs) ∧ Kp [] w w'))) := ⟨fun w1 h1 => by
    refine (mat_out h1 (by simp only [List.length_append, List.length_nil, List.length_singleton]; omega)).mono ?_
    rintro e w' ⟨v, rfl, o, k⟩
    exact ⟨v, rfl, ⟨o, k⟩⟩⟩
  clear hn hr
  go_enter Try.func63, Try.ntmps63
  go_wp2_with (first
    | (go_at_call 79; refine H1.out.mono ?_; rintro e w1 ⟨rfl, m1⟩; have HM1 := As.mk (H2.out w1 m1); clear m1 H1 H2)
    | (go_at_call 39; refine HM1.out.mono ?_; rintro e w2 ⟨rfl, m2⟩; have HM2 := As.mk (H3.out w2 m2); clear m2 H3 HM1)
    | (go_at_call 79; refine HM2.out.mono ?_; rintro e w3 ⟨rfl, m3⟩; have HM3 := As.mk (H4.out w3 m3); clear m3 H4 HM2)
    | (go_at_call 41; refine HM3.out.mono ?_; rintro e w4 ⟨v, rfl, HE⟩; clear HM3))
  go_ret
  exact ⟨v, rfl, HE.out.1, HE.out.2⟩

theorem num_small {v : Int} (h0 : 0 ≤ v) (h1 : v < 128) : num v = [v] := by
  have h2 := cl_of (n := v) h0 (by omega)
  have : O.cl v < 128 := by omega
  rw [num, enc_lo this, h2]
theorem num3 : num 3 = [3] := num_small (by decide) (by decide)
theorem st3 : O.stNum (some [3, 120]) = (3, some [120]) := by decide
set_option maxHeartbeats 4000000 in
set_option maxRecDepth 100000 in
theorem unwrap_known (A : Option Addr) (c : Nat) (w : World) (hr : Rd w A (iv .u8 [103, 3, 120])) (hnil : A = none → c = 0) :
    Calls Try.prog 62 #[.slice A 3 c] w fun e w' => ∃ A2 c2, e = .returned (.tuple #[.int .i64 3, .slice A2 1 c2, .int .i64 0]) ∧ Rd w' A2 (iv .u8 [120]) ∧ Kp [] w w' := by
  have H1 := As.mk (reader.new_any A 3 c [103, 3, 120] w rfl hr hnil (by omega) (by intro x hx; simp at hx; omega))
  have H2 : As (∀ wX b g, reader.Rdr wX b g (some [103, 3, 120]) → Calls Try.prog 82 #[.pointer (some ⟨b, 0, none⟩), .int .i64 1] wX fun e w' => ∃ gv c1, e = .returned (.slice (some ⟨gv, 0, none⟩) 1 c1) ∧ w'.cell? ⟨gv, 0, none⟩ = some (.int .u8 103) ∧ gv ≠ b ∧ (∃ g', reader.Rdr w' b g' (some [3, 120])) ∧ Kp [b] wX w') := ⟨fun wX b g h => by
    refine (reader.raw_any b g (some [103, 3, 120]) 1 wX h (by simp [left])).mono ?_
    rintro e w' ⟨v, rfl, o, g', R, _, k⟩
    rw [show (O.stRaw 1 (some [103, 3, 120])).1 = [103] from rfl] at o
    rw [show (O.stRaw 1 (some [103, 3, 120])).2 = some [3, 120] from rfl] at R
    obtain ⟨gv, cp, rfl, _⟩ := own_form o.1 (by simp)
    refine ⟨gv, cp, rfl, ?_, (by have h1 := o.2 gv rfl; have h2 := h.lt; omega), ⟨g', R⟩, k⟩
    have := o.1.cellAt 0 (by simp)
    rw [show (iv .u8 [103])[0]? = some (.int .u8 103) from rfl] at this
    simpa using this⟩
  have H3 : As (∀ wX b g, reader.Rdr wX b g (some [3, 120]) → Calls Try.prog 47 #[.pointer (some ⟨b, 0, none⟩)] wX fun e w' => e = .returned (.int .i64 3) ∧ (∃ g', reader.Rdr w' b g' (some [120])) ∧ Kp [b] wX w') := ⟨fun wX b g h => by
    refine (reader.num_any b g (some [3, 120]) wX h (by simp [left])).mono ?_
    rw [st3]
    rintro e w' ⟨rfl, g', R, _, k⟩
    exact ⟨rfl, ⟨g', R⟩, k⟩⟩
  have H4 : As (∀ wX b g, reader.Rdr wX b g (some [120]) → Calls Try.prog 74 #[.pointer (some ⟨b, 0, none⟩)] wX fun e w' => e = .returned (.bool true) ∧ Kp [] wX w') := ⟨fun wX b g h => by
    refine (reader.good_any b g (some [120]) wX h).mono ?_
    rintro e w' ⟨rfl, rfl⟩
    exact ⟨rfl, Kp.refl _ _⟩⟩
  have H5 : As (∀ wX b g, reader.Rdr wX b g (some [120]) → Calls Try.prog 83 #[.pointer (some ⟨b, 0, none⟩)] wX fun e w' => e = .returned (.int .i64 1) ∧ Kp [] wX w') := ⟨fun wX b g h => by
    refine (reader.left_any b g (some [120]) wX h).mono ?_
    rintro e w' ⟨rfl, rfl⟩
    exact ⟨rfl, Kp.refl _ _⟩⟩
  have H6 : As (∀ wX b g, reader.Rdr wX b g (some [120]) → Calls Try.prog 82 #[.pointer (some ⟨b, 0, none⟩), .int .i64 1] wX fun e w' => ∃ A2 c2, e = .returned (.slice A2 1 c2) ∧ Rd w' A2 (iv .u8 [120]) ∧ Kp [b] wX w') := ⟨fun wX b g h => by
    refine (reader.raw_any b g (some [120]) 1 wX h (by simp [left])).mono ?_
    rintro e w' ⟨v, rfl, o, g', R, _, k⟩
    rw [show (O.stRaw 1 (some [120])).1 = [120] from rfl] at o
    obtain ⟨A2, c2, rfl, _, _, r, _⟩ := own_rd o.1
    exact ⟨A2, c2, rfl, r, k⟩⟩
  clear hr hnil
  go_enter Try.func62, Try.ntmps62
  go_wp2_with (first
    | (go_at_call 46; refine H1.out.mono ?_; rintro e w2 ⟨b, g, rfl, R, hb, _, k2⟩; have HB := As.mk hb; have HK2 := As.mk k2; have HRA := As.mk (H2.out w2 b g R); clear R hb k2 H1 H2)
    | (go_at_call 82; refine HRA.out.mono ?_; rintro e w3 ⟨gv, c3, rfl, d3, hgv, ⟨g3, R3⟩, k3⟩; have HK3 : As (Kp [] w w3) := ⟨HK2.out.trans k3 (by intro x hx; simp at hx; subst hx; exact .inr HB.out)⟩; have HG := As.mk hgv; have HNU := As.mk (H3.out w3 b g3 R3); clear k3 R3 hgv HRA H3)
    | (go_at_call 47; refine HNU.out.mono ?_; rintro e w4 ⟨rfl, ⟨g4, R4⟩, k4⟩; have HK4 : As (Kp [] w w4) := ⟨HK3.out.trans k4 (by intro x hx; simp at hx; subst hx; exact .inr HB.out)⟩; have d4 := k4.cell d3 (by simpa using HG.out); have HGO := As.mk (H4.out w4 b g4 R4); have HR4 := As.mk R4; clear k4 R4 HNU H4)
    | (go_at_call 74; refine HGO.out.mono ?_; rintro e w5 ⟨rfl, k5⟩; have HK5 : As (Kp [] w w5) := ⟨HK4.out.trans k5 (by simp)⟩; have d5 := k5.cell d4 (by simp); have HR5 := As.mk (HR4.out.kp k5 (by simp) (by simp)); have HLE := As.mk (H5.out w5 b g4 HR5.out); clear k5 HGO H5)
    | (go_at_call 83; refine HLE.out.mono ?_; rintro e w6 ⟨rfl, k6⟩; have HK6 : As (Kp [] w w6) := ⟨HK5.out.trans k6 (by simp)⟩; have HRB := As.mk (H6.out w6 b g4 (HR5.out.kp k6 (by simp) (by simp))); clear k6 HLE H6)
    | (go_at_call 82; refine HRB.out.mono ?_; rintro e w7 ⟨A7, c7, rfl, r7, k7⟩; have HK7 : As (Kp [] w w7) := ⟨HK6.out.trans k7 (by intro x hx; simp at hx; subst hx; exact .inr HB.out)⟩; have HR7 := As.mk r7; clear k7 r7 HRB))
  go_ret3
  exact ⟨A7, c7, rfl, HR7.out, HK7.out⟩
end Go.Proofs.Ytiabdeciadfiiaa.wir
