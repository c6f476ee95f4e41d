/- haystackref13.DecodeReply. -/
import Derived.Test.YtlknlpiiogmfbaaMatM1
import Derived.Test.YtlknlpiiogmfbaaEmpty
import Derived.Test.YtlknlpiiogmfbaaRepE
import Derived.Test.YtlknlpiiogmfbaaOpF
namespace Go.Proofs.Ytlknlpiiogmfbaa.ref13
open Go.RowKit H O opk haystacklaw13 refr

/-- Where DecodeReply stands: the Reader of the call's own, and the numbers. -/
structure IR (w wr : World) (v : Value) (k : Nat) (l : List Int) (s : Option (List Int)) : Prop where
  kp : Kp [] w wr
  own : wr.ownsRow 0 3 1 v k (iv .i64 l)
  lo : ∀ y, v.ownBlock = some y → w.heap.size + 1 ≤ y
  rdr : ∃ g, Rdr wr w.heap.size g s ∧ ∀ y, g = some y → y < w.heap.size + 1
theorem IR.lt {w wr : World} {v : Value} {k : Nat} {l : List Int} {s : Option (List Int)} (h : IR w wr v k l s) : w.heap.size < wr.heap.size := by
  obtain ⟨g, hr, _⟩ := h.rdr
  exact hr.lt
theorem IR.skip {w wr w1 : World} {v : Value} {k : Nat} {l : List Int} {s : Option (List Int)} (h : IR w wr v k l s) (kk : Kp [] wr w1) : IR w w1 v k l s := by
  obtain ⟨g, hr, hg⟩ := h.rdr
  exact ⟨h.kp.trans kk (by simp), kk.own h.own (by simp), h.lo, ⟨g, hr.kp kk (by simp) (by simp), hg⟩⟩
theorem IR.took {w wr w1 : World} {v : Value} {k : Nat} {l : List Int} {s s' : Option (List Int)} {g g' : Option Nat} (h : IR w wr v k l s) (hg : ∀ y, g = some y → y < w.heap.size + 1) (R : Rdr w1 w.heap.size g' s') (G : g' = g ∨ g' = none) (kk : Kp [w.heap.size] wr w1) : IR w w1 v k l s' :=
  ⟨h.kp.trans kk (by intro x hx; simp at hx; omega), kk.own h.own (fun y hy => by have := h.lo y hy; simp; omega), h.lo, ⟨g', R, fun y hy => by rcases G with e | e; exact hg y (by rw [← e]; exact hy); rw [e] at hy; cases hy⟩⟩
theorem IR.put {w wr w2 : World} {v v' : Value} {k : Nat} {l : List Int} {s : Option (List Int)} {y : Int} (h : IR w wr v k l s) (o : w2.ownsRow 0 3 1 v' (k + 1) (iv .i64 l ++ [.int .i64 y])) (kk : Kp v.ownBlock.toList wr w2) (a : At wr.heap.size v.ownBlock v'.ownBlock) : IR w w2 v' (k + 1) (l ++ [y]) s := by
  obtain ⟨g, hr, hg⟩ := h.rdr
  have hl := h.lt
  have hS : ∀ i, i < w.heap.size + 1 → i ∉ v.ownBlock.toList := fun i hi hm => by have := h.lo i (by simpa using hm); omega
  exact ⟨h.kp.row kk (fun z hz => .inr (by have := h.lo z hz; omega)), by rw [iv_app]; exact o, a.ge (by omega) h.lo, ⟨g, hr.kp kk (hS _ (by omega)) (fun z hz => hS z (hg z hz)), hg⟩⟩
theorem IR.box {w : World} {A : Option Addr} {n c : Nat} {xs : List Int} (hn : xs.length = n) (hr : Rd w A (iv .u8 xs)) (hc : n ≤ c) (hc9 : c ≤ 9223372036854775807) (hnil : A = none → c = 0) (hA : ∀ a, A = some a → a.block < w.heap.size) (hw : Wf xs) :
    IR w (w.alloc (.cells #[.slice A n c, .bool false] 98)) (.slice none 0 0) 0 [] (some xs) :=
  ⟨(MR.box hn hr hc hc9 hnil hA hw).kp, World.ownsRow_nil _ 0 _ 1, by simp [Value.ownBlock], (MR.box hn hr hc hc9 hnil hA hw).rdr⟩
theorem IR.err {w wr : World} {v : Value} {k : Nat} {l : List Int} {s : Option (List Int)} (h : IR w wr v k l s) : wr.cell? ⟨w.heap.size, 1, none⟩ = some (.bool s.isNone) := by
  obtain ⟨g, ⟨A, c, h1, _⟩, _⟩ := h.rdr
  exact blk_cell h1 1 rfl
theorem IR.num {w wr : World} {v : Value} {k : Nat} {l : List Int} {s s4 : Option (List Int)} {y : Nat} (h : IR w wr v k l s) (hl : (left s).length ≤ 70368744177664) (hs : stNum s = (y, s4)) :
    Calls Try.prog 71 #[.pointer (some ⟨w.heap.size, 0, none⟩)] wr fun e w5 => e = .returned (.int .i64 (y : Int)) ∧ IR w w5 v k l s4 := by
  obtain ⟨g, R, hg⟩ := h.rdr
  refine (num_any _ g s wr R hl).mono ?_
  rw [hs]
  rintro e w5 ⟨rfl, g5, R5, G5, K5⟩
  exact ⟨rfl, h.took hg R5 G5 K5⟩
theorem IR.whole {w wr : World} {v : Value} {k : Nat} {l : List Int} {s : Option (List Int)} (h : IR w wr v k l s) :
    Calls Try.prog 75 #[.pointer (some ⟨w.heap.size, 0, none⟩)] wr fun e w5 => e = .returned (.bool (refr.whole s)) ∧ w5 = wr := by
  obtain ⟨g, R, hg⟩ := h.rdr
  exact whole_any _ g s wr R

/-- the first number -/
theorem IR.first {w : World} {A : Option Addr} {n c N : Nat} {xs : List Int} {s1 : Option (List Int)} (hn : xs.length = n) (hr : Rd w A (iv .u8 xs)) (hc : n ≤ c) (hc9 : c ≤ 9223372036854775807) (hnil : A = none → c = 0) (hA : (∀ a, A = some a → a.block < w.heap.size) ∨ n = 0) (hw : Wf xs) (hl : (left (some xs)).length ≤ 70368744177664) (h0 : stNum (some xs) = (N, s1)) :
    Calls Try.prog 71 #[.pointer (some ⟨w.heap.size, 0, none⟩)] (w.alloc (.cells #[.slice A n c, .bool false] 98)) fun e w5 => e = .returned (.int .i64 (N : Int)) ∧ IR w w5 (.slice none 0 0) 0 [] s1 := by
  rcases hA with hA | rfl
  · exact (IR.box hn hr hc hc9 hnil hA hw).num hl h0
  · obtain rfl : xs = [] := List.eq_nil_of_length_eq_zero hn
    have e0 : stNum (some []) = (0, none) := rfl
    rw [e0] at h0
    cases h0
    refine (num_empty (A := A) (c := c) (b := w.heap.size) (heap_alloc_new w _)).mono ?_
    rintro e w5 ⟨rfl, R5, K5⟩
    exact ⟨rfl, ⟨((Kp.refl [] w).alloc _).trans K5 (by simp), World.ownsRow_nil _ 0 _ 1, by simp [Value.ownBlock], ⟨none, R5, by simp⟩⟩⟩

/-- behind DecodeReply -/
def DRep (xs : List Int) (w : World) (e : Ending) (w' : World) : Prop :=
  ∃ (er : Int) (l : List Int) (z : Int) (A : Option Addr) (n c : Nat), dRep xs = (er, l, z) ∧ e = .returned (.tuple #[.int .i64 er, .slice A n c, .int .i64 z]) ∧ l.length = n ∧ Rd w' A (iv .i64 l) ∧ n ≤ c ∧ (A = none → c = 0) ∧ Kp [] w w'
theorem drep_none {xs : List Int} {w w' : World} (h : dRep xs = (0, [], 3)) (k : Kp [] w w') : DRep xs w (.returned (.tuple #[.int .i64 0, .slice none 0 0, .int .i64 3])) w' :=
  ⟨0, [], 3, none, 0, 0, h, rfl, rfl, Rd.nil _ _, Nat.le_refl _, fun _ => rfl, k⟩

set_option maxHeartbeats 8000000 in
set_option maxRecDepth 100000 in
theorem decRep_any (A : Option Addr) (n c : Nat) (xs : List Int) (w : World) (hn : xs.length = n) (hr : Rd w A (iv .u8 xs)) (hc : n ≤ c) (hc9 : c ≤ 9223372036854775807) (hnil : A = none → c = 0) (hA : (∀ a, A = some a → a.block < w.heap.size) ∨ n = 0) (hw : Wf xs) (hm : n ≤ 1000000) :
    Calls Try.prog 45 #[.slice A n c] w (DRep xs w) := by
  obtain ⟨n0, s1, h0⟩ : ∃ a b, stNum (some xs) = (a, b) := ⟨_, _, rfl⟩
  obtain ⟨n1, s2, h1⟩ : ∃ a b, stNum s1 = (a, b) := ⟨_, _, rfl⟩
  have HE : As (dRep xs = if n0 ≤ 100 ∧ n1 ≤ 8 ∧ (stNums n1 s2).2 = some [] then ((n0 : Int), (stNums n1 s2).1, 0) else (0, [], 3)) := ⟨by simp only [dRep, h0, h1]⟩
  have hl0 : (left (some xs)).length ≤ 70368744177664 := by simp [left]; omega
  have hl1 : (left s1).length ≤ 70368744177664 := by
    have q1 := refr.left_le hl0
    rwa [h0] at q1
  have hl2 : (left s2).length ≤ 70368744177664 := by
    have q1 := refr.left_le hl1
    rwa [h1] at q1
  have HN0 := As.mk (IR.first hn hr hc hc9 hnil hA hw hl0 h0)
  have HN1 : As (∀ wX, IR w wX (.slice none 0 0) 0 [] s1 → Calls Try.prog 71 #[.pointer (some ⟨w.heap.size, 0, none⟩)] wX fun e w5 => e = .returned (.int .i64 (n1 : Int)) ∧ IR w w5 (.slice none 0 0) 0 [] s2) := ⟨fun wX h => h.num hl1 h1⟩
  have HL2 := As.mk hl2
  clear h0 h1 hl0 hl1 hl2 hn hr hc hc9 hnil hA hw
  go_enter Try.func45, Try.ntmps45
  go_wp2_with (first
    | (go_at_call 71; refine (HN1.out _ HB1.out).mono ?_; rintro e w3 ⟨rfl, h3⟩; have HB3 := As.mk h3; clear h3 HN1 HB1)
    | (go_at_call 71; refine HN0.out.mono ?_; rintro e w2 ⟨rfl, h2⟩; have HB1 := As.mk h2; clear h2 HN0))
  go_loopw [8, 9] (fun v i wr => ∃ (k cX : Nat) (AX : Option Addr), i = .int .i64 (k : Int) ∧ v = .slice AX k cX ∧ k ≤ n1 ∧ k ≤ 9 ∧ As (IR w wr (.slice AX k cX) k (stNums k s2).1 (stNums k s2).2)) (fun _ i _ => n1 - (intOf i).toNat)
  case atStart => exact ⟨0, 0, none, rfl, rfl, by omega, by omega, HB3⟩
  case round =>
    obtain ⟨k, cX, AX, rfl, rfl, hk, hk9, HD⟩ := hrel
    by_cases hlt : k < n1
    · by_cases h9 : k < 9
      · have dE := HD.out.err
        cases hst : (stNums k s2).2 with
        | none =>
          rw [hst] at dE HD
          have HWH := As.mk HD.out.whole
          have HZ : As (dRep xs = (0, [], 3)) := ⟨by rw [HE.out, stNums_stay hst (by omega), if_neg (by simp)]⟩
          clear hst
          go_wp2_with (go_at_call 75; refine HWH.out.mono ?_; rintro e w6 ⟨rfl, rfl⟩; clear HWH)
          go_ret3
          exact drep_none HZ.out HD.out.kp
        | some rest =>
          rw [hst] at dE HD
          obtain ⟨y, st', hy⟩ : ∃ a b, stNum (some rest) = (a, b) := ⟨_, _, rfl⟩
          have HNM := As.mk (HD.out.num (by have := reader.stNums_left (k := k) HL2.out; rwa [hst] at this) hy)
          have HNX : As ((stNums (k + 1) s2).1 = (stNums k s2).1 ++ [(y : Int)] ∧ (stNums (k + 1) s2).2 = st') := ⟨by rw [reader.stNums_snoc, hst, hy]; exact ⟨rfl, rfl⟩⟩
          clear hst hy
          go_wp2_with (first
            | (go_at_call 71; refine HNM.out.mono ?_; rintro e w6 ⟨rfl, h6⟩; have HD6 := As.mk h6; clear h6 HNM)
            | (at_builtin; refine app64 rfl (.tmp 33) (.tmp 36) rfl (.slice AX k cX) k (iv .i64 (stNums k s2).1) rfl (((Kp.refl [] _).alloc _).own HD6.out.own (by simp)) (some ⟨w6.heap.size, 0, none⟩) 1 1 [.int .i64 (y : Int)] rfl rfl (rd_new w6 [.int .i64 (y : Int)] _) (by simp) (by simp [Value.oneCell']) (by omega) ?_; intro v9 w9 o9 k9 a9; have h9 := (HD6.out.skip ((Kp.refl [] _).alloc _)).put (y := (y : Int)) o9 k9 a9; obtain ⟨A9, c9, rfl, _⟩ := own_rd o9; have HD9 := As.mk h9; clear o9 k9 a9 h9))
          go_roundw
          case rel => exact ⟨k + 1, c9, A9, by go_num, rfl, by omega, by omega, ⟨by rw [HNX.out.1, HNX.out.2]; exact HD9.out⟩⟩
          case measure => simp [intOf]; omega
      · obtain rfl : k = 9 := by omega
        have hn8 : 8 < n1 := by omega
        have HZ : As (dRep xs = (0, [], 3)) := ⟨by rw [HE.out, if_neg (by omega)]⟩
        have HWH := As.mk HD.out.whole
        cases hwh : refr.whole (stNums 9 s2).2 with
        | false =>
          rw [hwh] at HWH
          clear hwh
          go_wp2_with (go_at_call 75; refine HWH.out.mono ?_; rintro e w6 ⟨rfl, rfl⟩; clear HWH)
          go_ret3
          exact drep_none HZ.out HD.out.kp
        | true =>
          rw [hwh] at HWH
          clear hwh
          by_cases h100 : 100 < n0
          · go_wp2_with (go_at_call 75; refine HWH.out.mono ?_; rintro e w6 ⟨rfl, rfl⟩; clear HWH)
            go_ret3
            exact drep_none HZ.out HD.out.kp
          · go_wp2_with (go_at_call 75; refine HWH.out.mono ?_; rintro e w6 ⟨rfl, rfl⟩; clear HWH)
            go_ret3
            exact drep_none HZ.out HD.out.kp
    · obtain rfl : k = n1 := by omega
      have HWH := As.mk HD.out.whole
      cases hwh : refr.whole (stNums k s2).2 with
      | false =>
        have HZ : As (dRep xs = (0, [], 3)) := ⟨by rw [HE.out, if_neg]; intro h9; rw [h9.2.2] at hwh; simp [refr.whole] at hwh⟩
        rw [hwh] at HWH
        clear hwh
        go_wp2_with (go_at_call 75; refine HWH.out.mono ?_; rintro e w6 ⟨rfl, rfl⟩; clear HWH)
        go_ret3
        exact drep_none HZ.out HD.out.kp
      | true =>
        by_cases h100 : 100 < n0
        · have HZ : As (dRep xs = (0, [], 3)) := ⟨by rw [HE.out, if_neg (by omega)]⟩
          rw [hwh] at HWH
          clear hwh
          go_wp2_with (go_at_call 75; refine HWH.out.mono ?_; rintro e w6 ⟨rfl, rfl⟩; clear HWH)
          go_ret3
          exact drep_none HZ.out HD.out.kp
        · by_cases h8 : 8 < k
          · have HZ : As (dRep xs = (0, [], 3)) := ⟨by rw [HE.out, if_neg (by omega)]⟩
            rw [hwh] at HWH
            clear hwh
            go_wp2_with (go_at_call 75; refine HWH.out.mono ?_; rintro e w6 ⟨rfl, rfl⟩; clear HWH)
            go_ret3
            exact drep_none HZ.out HD.out.kp
          · have HZ : As (dRep xs = ((n0 : Int), (stNums k s2).1, 0)) := ⟨by rw [HE.out, if_pos ⟨by omega, by omega, by simpa [refr.whole] using hwh⟩]⟩
            rw [hwh] at HWH
            clear hwh
            go_wp2_with (go_at_call 75; refine HWH.out.mono ?_; rintro e w6 ⟨rfl, rfl⟩; clear HWH)
            go_ret3
            obtain ⟨A9, c9, h9, hc9, _, r9, n9⟩ := own_rd HD.out.own
            cases h9
            exact ⟨_, _, _, AX, k, cX, HZ.out, rfl, reader.stNums_len k s2, r9, hc9, n9, HD.out.kp⟩
end Go.Proofs.Ytlknlpiiogmfbaa.ref13
