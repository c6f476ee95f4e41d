/- MERGED: TkA TkB TkC CpA CpC -/
import Derived.Test.YtdiljpdohmeceaaGreatBasr
import Derived.Test.YtdiljpdohmeceaaGreatBasw
import Derived.Test.YtdiljpdohmeceaaGreatCoa
import Derived.Test.YtdiljpdohmeceaaGreatCrm
import Derived.Test.YtdiljpdohmeceaaGreatCob
/- coord: (*job).takes at a write's answer. -/
namespace Go.Proofs.YtdiljpdohmeceaaGreat.co
open Go.RowKit H O opk frame wir

/-- a job's block while it runs -/
def jobRun (m : Nat) (was has : Bool) (tv mv' : Value) (wk ok : Int) (cid : Nat) (key : ByteArray) (c11 c12 c13 : Value) : Obj :=
  .cells #[.int .i64 (m : Int), .int .i64 0, .bool was, .bool has, tv, mv', .int .i64 wk, .int .i64 ok, .int .i64 (cid : Int), .int .i64 ((m : Int) + 1), .string key, c11, c12, c13] 92 (0, 0)
/-- behind takes -/
def TkP (p0 m : Nat) (MV : Value) (l : List (ByteArray × Int)) (wk ok : Int) (cid : Nat) (key : ByteArray) (c11 c12 c13 : Value) (t : Took) (w : World) (e : Ending) (w' : World) : Prop :=
  ∃ was has tv mv' text ms, e = .returned (.int .i64 t.err) ∧ w'.heap[p0]? = some (jobRun m was has tv mv' wk ok cid key c11 c12 c13) ∧ Own 5 .u8 w' w.heap.size tv text ∧ w'.ownsRow 0 73 2 mv' (l ++ ms).length (mv (l ++ ms)) ∧ At w.heap.size MV.ownBlock mv'.ownBlock ∧
    Kp (p0 :: MV.ownBlock.toList) w w' ∧ (t.err = 0 → was = t.was ∧ has = t.has ∧ text = t.text ∧ ms = t.ms) ∧ (wk = 2 → was = false ∧ has = false ∧ tv = .slice none 0 0)
/-- nothing but Was has turned -/
theorem TkP.plain {p0 m : Nat} {MV : Value} {l : List (ByteArray × Int)} {wk ok : Int} {cid : Nat} {key : ByteArray} {c11 c12 c13 : Value} {t : Took} {w w' : World} (was : Bool) (hb : w'.heap[p0]? = some (jobRun m was false (.slice none 0 0) MV wk ok cid key c11 c12 c13)) (ho : w'.ownsRow 0 73 2 MV l.length (mv l)) (k : Kp [p0] w w')
    (ht : t.err = 0 → was = t.was ∧ false = t.has ∧ [] = t.text ∧ [] = t.ms) (h2 : wk = 2 → was = false) : TkP p0 m MV l wk ok cid key c11 c12 c13 t w (.returned (.int .i64 t.err)) w' :=
  ⟨was, false, _, MV, [], [], rfl, hb, Own.nil _ _ _ _, by rw [List.append_nil]; exact ho, At.refl _ _, k.mono (fun x hx => .inl (by simp at hx; simp [hx])), ht, fun e => ⟨h2 e, rfl, rfl⟩⟩

/-- what a write's answer says -/
def wEnd (del : Bool) (er : Int) (l : List Int) (z : Int) : Took :=
  if z ≠ 0 then ⟨false, false, [], [], 3⟩ else if er = 7 then ⟨false, false, [], [], 0⟩ else if er = 0 then ⟨del || decide (l.head? = some 1), false, [], [], 0⟩ else ⟨false, false, [], [], er⟩
theorem tookW_eq (del : Bool) {data : List Int} {er z : Int} {l : List Int} (h : dRep data = (er, l, z)) : tookW del data = wEnd del er l z := by rw [tookW, wEnd, h]

set_option maxHeartbeats 8000000 in
set_option maxRecDepth 100000 in
theorem takes_write (p0 m : Nat) (MV : Value) (l : List (ByteArray × Int)) (ok : Int) (cid : Nat) (key : ByteArray) (c11 c12 c13 : Value) (A : Option Addr) (n c : Nat) (data : List Int) (w : World)
    (hp : w.heap[p0]? = some (jobRun m false false (.slice none 0 0) MV 1 ok cid key c11 c12 c13)) (ho : w.ownsRow 0 73 2 MV l.length (mv l)) (hg : ∀ g, MV.ownBlock = some g → g ≠ p0)
    (hn : data.length = n) (hr : Rd w A (iv .u8 data)) (hnil : A = none → c = 0) (hw : Wf data) (hm : n ≤ 50000) :
    Calls Tryz.prog 49 #[.pointer (some ⟨p0, 0, none⟩), .slice A n c] w (TkP p0 m MV l 1 ok cid key c11 c12 c13 (tookW (decide (ok = 2)) data) w) := by
  have hpl := lt_of_block hp
  have H1 : As (Calls Tryz.prog 85 #[.slice A n c] w fun e w' => ∃ A1 n1 c1, e = .returned (.tuple #[.agg #[.int .i64 (dRep data).1, .slice A1 n1 c1], .int .i64 (dRep data).2.2]) ∧ As ((dRep data).2.1.length = n1 ∧ Rd w' A1 (iv .i64 (dRep data).2.1) ∧ Kp [] w w')) := ⟨by
    refine (decRep_any A n c data w hn hr hnil hw (by omega)).mono ?_
    rintro e w' ⟨er, l', z, A1, n1, c1, hd, rfl, h1, h2, _, _, h3⟩
    rw [hd]
    exact ⟨A1, n1, c1, rfl, ⟨h1, h2, h3⟩⟩⟩
  obtain ⟨er, l', z, hd⟩ : ∃ er l' z, dRep data = (er, l', z) := ⟨_, _, _, rfl⟩
  rw [hd] at H1
  rw [tookW_eq _ hd]
  have a6 := blk_cell hp 6 rfl
  have HF : As (∀ (t : Took) (w2 : World), Kp [] w w2 → (t.err = 0 → false = t.was ∧ false = t.has ∧ [] = t.text ∧ [] = t.ms) → TkP p0 m MV l 1 ok cid key c11 c12 c13 t w (.returned (.int .i64 t.err)) w2) := ⟨fun t w2 k ht =>
    TkP.plain false (k.blk hp (by simp)) (k.own ho (by simp)) (k.mono (by simp)) ht (fun _ => rfl)⟩
  have HS : As (∀ (t : Took) (w2 w3 : World) (b : Bool), Kp [] w w2 → Kp [] (w2.setCell ⟨p0, 2, none⟩ (.bool b)) w3 → (t.err = 0 → b = t.was ∧ false = t.has ∧ [] = t.text ∧ [] = t.ms) → TkP p0 m MV l 1 ok cid key c11 c12 c13 t w (.returned (.int .i64 t.err)) w3) := ⟨fun t w2 w3 b k k3 ht => by
    have kS : Kp [p0] w2 (w2.setCell ⟨p0, 2, none⟩ (.bool b)) := (Kp.refl _ w2).setCell (.inl (by simp)) _
    exact TkP.plain b (k3.blk (heap_setCell_same w2 p0 2 _ _ (.bool b) (k.blk hp (by simp))) (by simp)) (k3.own (kS.own (k.own ho (by simp)) (fun g e => by simpa using hg g e)) (by simp)) (((k.mono (by simp)).trans kS (fun x hx => .inl hx)).trans k3 (by simp)) ht (fun e => by omega)⟩
  clear hn hr hnil hw hm ho hg hd
  unfold jobRun at hp
  by_cases hz : z = 0
  · subst hz
    by_cases h7 : er = 7
    · subst h7
      have ht : wEnd (decide (ok = 2)) 7 l' 0 = ⟨false, false, [], [], 0⟩ := by simp [wEnd]
      rw [ht]
      go_enter Tryz.func49, Tryz.ntmps49
      go_wp2_with (go_at_call 85; refine H1.out.mono ?_; rintro e w1 ⟨A1, n1, c1, rfl, HD⟩; clear H1)
      go_ret
      exact HF.out ⟨false, false, [], [], 0⟩ _ (HD.out.2.2.alloc _) (fun _ => ⟨rfl, rfl, rfl, rfl⟩)
    · by_cases h0 : er = 0
      · subst h0
        by_cases h2 : ok = 2
        · subst h2
          have ht : wEnd (decide ((2 : Int) = 2)) 0 l' 0 = ⟨true, false, [], [], 0⟩ := by simp [wEnd]
          rw [ht]
          go_enter Tryz.func49, Tryz.ntmps49
          go_wp2_with (go_at_call 85; refine H1.out.mono ?_; rintro e w1 ⟨A1, n1, c1, rfl, HD⟩; have b6 := HD.out.2.2.blk hp (by simp); have a7 := blk_cell b6 7 rfl; have a2 := blk_cell b6 2 rfl; have f2 := blk_free b6 2; have m1 := lt_of_block b6; have m2 : ¬ p0 = w1.heap.size := (by omega); clear H1 b6)
          go_ret
          exact HS.out ⟨true, false, [], [], 0⟩ w1 _ true HD.out.2.2 ((Kp.refl [] _).alloc _) (fun _ => ⟨rfl, rfl, rfl, rfl⟩)
        · have bok : (ok == 2) = false := by simpa using h2
          cases l' with
          | nil =>
            have ht : wEnd (decide (ok = 2)) 0 [] 0 = ⟨false, false, [], [], 0⟩ := by simp [wEnd, h2]
            rw [ht]
            have H10 : As (Calls Tryz.prog 85 #[.slice A n c] w fun e w' => ∃ A1 c1, e = .returned (.tuple #[.agg #[.int .i64 0, .slice A1 0 c1], .int .i64 0]) ∧ As (Kp [] w w')) := ⟨by
              refine H1.out.mono ?_
              rintro e w' ⟨A1, n1, c1, rfl, HD⟩
              obtain rfl : n1 = 0 := by have := HD.out.1; simpa using this.symm
              exact ⟨A1, c1, rfl, ⟨HD.out.2.2⟩⟩⟩
            clear H1
            go_enter Tryz.func49, Tryz.ntmps49
            go_wp2_with (go_at_call 85; refine H10.out.mono ?_; rintro e w1 ⟨A1, c1, rfl, HD⟩; have b6 := HD.out.blk hp (by simp); have a7 := blk_cell b6 7 rfl; have a2 := blk_cell b6 2 rfl; have f2 := blk_free b6 2; have m1 := lt_of_block b6; have m2 : ¬ p0 = w1.heap.size := (by omega); clear H10 b6)
            go_ret
            exact HS.out ⟨false, false, [], [], 0⟩ w1 _ false HD.out ((Kp.refl [] _).alloc _) (fun _ => ⟨rfl, rfl, rfl, rfl⟩)
          | cons x t' =>
            have H11 : As (Calls Tryz.prog 85 #[.slice A n c] w fun e w' => ∃ bb oo nn c1, e = .returned (.tuple #[.agg #[.int .i64 0, .slice (some ⟨bb, oo, none⟩) (nn + 1) c1], .int .i64 0]) ∧ w'.cell? ⟨bb, oo, none⟩ = some (.int .i64 x) ∧ bb < w'.heap.size ∧ As (Kp [] w w')) := ⟨by
              refine H1.out.mono ?_
              rintro e w' ⟨A1, n1, c1, rfl, HD⟩
              obtain ⟨bb, oo, rfl, hc⟩ := int_at HD.out.2.1 0 (by simp)
              rw [Nat.add_zero] at hc
              refine ⟨bb, oo, t'.length, c1, by rw [← HD.out.1]; rfl, hc, World.block_lt_of_cell? w' _ hc, ⟨HD.out.2.2⟩⟩⟩
            clear H1
            by_cases hx : x = 1
            · subst hx
              have ht : wEnd (decide (ok = 2)) 0 (1 :: t') 0 = ⟨true, false, [], [], 0⟩ := by simp [wEnd]
              rw [ht]
              go_enter Tryz.func49, Tryz.ntmps49
              go_wp2_with (go_at_call 85; refine H11.out.mono ?_; rintro e w1 ⟨bb, oo, nn, c1, rfl, hcx, m3, HD⟩; have m4 : ¬ bb = w1.heap.size := (by omega); have b6 := HD.out.blk hp (by simp); have a7 := blk_cell b6 7 rfl; have a2 := blk_cell b6 2 rfl; have f2 := blk_free b6 2; have m1 := lt_of_block b6; have m2 : ¬ p0 = w1.heap.size := (by omega); clear H11 b6)
              go_ret
              exact HS.out ⟨true, false, [], [], 0⟩ w1 _ true HD.out ((Kp.refl [] _).alloc _) (fun _ => ⟨rfl, rfl, rfl, rfl⟩)
            · have ht : wEnd (decide (ok = 2)) 0 (x :: t') 0 = ⟨false, false, [], [], 0⟩ := by simp [wEnd, h2, hx]
              rw [ht]
              have bx : (x == 1) = false := by simpa using hx
              go_enter Tryz.func49, Tryz.ntmps49
              go_wp2_with (go_at_call 85; refine H11.out.mono ?_; rintro e w1 ⟨bb, oo, nn, c1, rfl, hcx, m3, HD⟩; have m4 : ¬ bb = w1.heap.size := (by omega); have b6 := HD.out.blk hp (by simp); have a7 := blk_cell b6 7 rfl; have a2 := blk_cell b6 2 rfl; have f2 := blk_free b6 2; have m1 := lt_of_block b6; have m2 : ¬ p0 = w1.heap.size := (by omega); clear H11 b6)
              go_ret
              exact HS.out ⟨false, false, [], [], 0⟩ w1 _ false HD.out ((Kp.refl [] _).alloc _) (fun _ => ⟨rfl, rfl, rfl, rfl⟩)
      · have ht : wEnd (decide (ok = 2)) er l' 0 = ⟨false, false, [], [], er⟩ := by simp [wEnd, h7, h0]
        rw [ht]
        have b0 : (er == 0) = false := by simpa using h0
        have b7 : (er == 7) = false := by simpa using h7
        go_enter Tryz.func49, Tryz.ntmps49
        go_wp2_with (go_at_call 85; refine H1.out.mono ?_; rintro e w1 ⟨A1, n1, c1, rfl, HD⟩; have b6 := HD.out.2.2.blk hp (by simp); have a7 := blk_cell b6 7 rfl; have a2 := blk_cell b6 2 rfl; have f2 := blk_free b6 2; have m1 := lt_of_block b6; have m2 : ¬ p0 = w1.heap.size := (by omega); clear H1 b6)
        go_ret
        exact HS.out ⟨false, false, [], [], er⟩ w1 _ false HD.out.2.2 ((Kp.refl [] _).alloc _) (fun e => absurd e h0)
  · have ht : wEnd (decide (ok = 2)) er l' z = ⟨false, false, [], [], 3⟩ := by simp [wEnd, hz]
    rw [ht]
    have bne : (z != 0) = true := by simpa using hz
    go_enter Tryz.func49, Tryz.ntmps49
    go_wp2_with (go_at_call 85; refine H1.out.mono ?_; rintro e w1 ⟨A1, n1, c1, rfl, HD⟩; clear H1)
    go_ret
    exact HF.out ⟨false, false, [], [], 3⟩ _ (HD.out.2.2.alloc _) (fun e => by cases e)
end Go.Proofs.YtdiljpdohmeceaaGreat.co

/- coord: (*job).takes at a Get's and a Find's answer. -/
namespace Go.Proofs.YtdiljpdohmeceaaGreat.co
open Go.RowKit H O opk frame wir

/-- what a Get's answer says: its first number, what stands behind it, bytes, what stands behind them -/
def gEnd (n0 : Nat) (s1 : Option (List Int)) (dat : List Int) (s2 : Option (List Int)) : Took :=
  if n0 = 1 then (if s2 = some [] then ⟨false, true, dat, [], 0⟩ else ⟨false, false, [], [], 3⟩) else if n0 = 0 ∧ s1 = some [] then ⟨false, false, [], [], 0⟩ else ⟨false, false, [], [], 3⟩
theorem tookG_eq {data : List Int} {n0 : Nat} {s1 s2 : Option (List Int)} {dat : List Int} (h : stNum (some data) = (n0, s1)) (h2 : stBytes s1 = (dat, s2)) : tookG data = gEnd n0 s1 dat s2 := by
  rw [tookG, gEnd, h]
  simp only
  rw [h2]
theorem whole_eq (s : Option (List Int)) : reader.whole s = decide (s = some []) := by
  rw [Bool.eq_iff_iff]
  simp [reader.whole]

/-- a Reader whose blocks are new -/
def RG (lo : Nat) (w : World) (b : Nat) (s : Option (List Int)) : Prop := ∃ g, reader.Rdr w b g s ∧ ∀ x, g = some x → lo ≤ x
theorem RG.kp {lo : Nat} {w w1 : World} {b : Nat} {s : Option (List Int)} {S : List Nat} (h : RG lo w b s) (hb : lo ≤ b) (k : Kp S w w1) (hS : ∀ x ∈ S, x < lo) : RG lo w1 b s := by
  obtain ⟨g, R, hg⟩ := h
  exact ⟨g, R.kp k (fun hm => by have := hS _ hm; omega) (fun x hx hm => by have := hS _ hm; have := hg x hx; omega), hg⟩
theorem RG.next {lo : Nat} {g g' : Option Nat} (hg : ∀ x, g = some x → lo ≤ x) (h : g' = g ∨ g' = none) : ∀ x, g' = some x → lo ≤ x := fun x hx => by
  rcases h with e | e
  · exact hg x (by rw [← e]; exact hx)
  · rw [e] at hx; cases hx

set_option maxHeartbeats 8000000 in
set_option maxRecDepth 100000 in
theorem takes_get (p0 m : Nat) (MV : Value) (l : List (ByteArray × Int)) (ok : Int) (cid : Nat) (key : ByteArray) (c11 c12 c13 : Value) (A : Option Addr) (n c : Nat) (data : List Int) (w : World)
    (hp : w.heap[p0]? = some (jobRun m false false (.slice none 0 0) MV 3 ok cid key c11 c12 c13)) (ho : w.ownsRow 0 73 2 MV l.length (mv l)) (hg : ∀ g, MV.ownBlock = some g → g ≠ p0)
    (hn : data.length = n) (hr : Rd w A (iv .u8 data)) (hnil : A = none → c = 0) (hw : Wf data) (hm : n ≤ 50000) :
    Calls Tryz.prog 49 #[.pointer (some ⟨p0, 0, none⟩), .slice A n c] w (TkP p0 m MV l 3 ok cid key c11 c12 c13 (tookG data) w) := by
  have hpl := lt_of_block hp
  obtain ⟨n0, s1, h0⟩ : ∃ a b, stNum (some data) = (a, b) := ⟨_, _, rfl⟩
  obtain ⟨dat, s2, h2⟩ : ∃ a b, stBytes s1 = (a, b) := ⟨_, _, rfl⟩
  rw [tookG_eq h0 h2]
  have hl1 : (left s1).length ≤ 50000 := by have := reader.left_le (s := some data) (m := 50000) (by simpa [left, hn] using hm); rw [h0] at this; exact this
  have H1 := As.mk (reader.new_any A n c data w hn hr hnil (by omega) hw)
  have H2 : As (∀ wX b, RG w.heap.size wX b (some data) → Calls Tryz.prog 87 #[.pointer (some ⟨b, 0, none⟩)] wX fun e w' => e = .returned (.int .i64 n0) ∧ As (RG w.heap.size w' b s1) ∧ Kp [b] wX w') := ⟨fun wX b h => by
    obtain ⟨g, h, hg2⟩ := h
    refine (reader.num_any b g (some data) wX h (by simp only [left, Option.getD_some]; omega)).mono ?_
    rw [h0]
    rintro e w' ⟨rfl, g', R, G, k⟩
    exact ⟨rfl, ⟨g', R, RG.next hg2 G⟩, k⟩⟩
  have H3 : As (∀ wX b, RG w.heap.size wX b s1 → Calls Tryz.prog 88 #[.pointer (some ⟨b, 0, none⟩)] wX fun e w' => ∃ A5 n5 c5, e = .returned (.slice A5 n5 c5) ∧ As (Own 5 .u8 w' wX.heap.size (.slice A5 n5 c5) dat ∧ RG w.heap.size w' b s2 ∧ Kp [b] wX w')) := ⟨fun wX b R => by
    obtain ⟨g, R, hg2⟩ := R
    refine (reader.bytes_any b g s1 wX R (by omega)).mono ?_
    rw [h2]
    rintro e w' ⟨v, rfl, o, g', R', G, k⟩
    obtain ⟨A5, c5, rfl, _⟩ := own_rd o.1
    exact ⟨A5, _, c5, rfl, ⟨o, ⟨g', R', RG.next hg2 G⟩, k⟩⟩⟩
  have H4 : As (∀ wX b, RG w.heap.size wX b s1 → Calls Tryz.prog 89 #[.pointer (some ⟨b, 0, none⟩)] wX fun e w' => e = .returned (.tuple #[]) ∧ As (RG w.heap.size w' b none) ∧ Kp [b] wX w') := ⟨fun wX b R => by
    obtain ⟨g, R, hg2⟩ := R
    refine (reader.bad_any b g s1 wX R).mono ?_
    rintro e w' ⟨rfl, g', R', G, k⟩
    exact ⟨rfl, ⟨g', R', RG.next hg2 G⟩, k⟩⟩
  have H5 : As (∀ s wX b, RG w.heap.size wX b s → Calls Tryz.prog 90 #[.pointer (some ⟨b, 0, none⟩)] wX fun e w' => e = .returned (.bool (decide (s = some []))) ∧ w' = wX) := ⟨fun s wX b h => by
    obtain ⟨g, R, _⟩ := h
    rw [← whole_eq]
    exact reader.whole_any b g s wX R⟩
  have a6 := blk_cell hp 6 rfl
  have HF : As (∀ (t : Took) (w2 : World), Kp [] w w2 → (t.err = 0 → false = t.was ∧ false = t.has ∧ [] = t.text ∧ [] = t.ms) → TkP p0 m MV l 3 ok cid key c11 c12 c13 t w (.returned (.int .i64 t.err)) w2) := ⟨fun t w2 k ht =>
    TkP.plain false (k.blk hp (by simp)) (k.own ho (by simp)) (k.mono (by simp)) ht (fun _ => rfl)⟩
  have HS : As (∀ (t : Took) (w2 : World) (v : Value), Kp [] w w2 → Own 5 .u8 w2 w.heap.size v dat → (t.err = 0 → false = t.was ∧ true = t.has ∧ dat = t.text ∧ [] = t.ms) → TkP p0 m MV l 3 ok cid key c11 c12 c13 t w (.returned (.int .i64 t.err)) ((w2.setCell ⟨p0, 3, none⟩ (.bool true)).setCell ⟨p0, 4, none⟩ v)) := ⟨fun t w2 v k o ht => by
    have kS : Kp [p0] w2 ((w2.setCell ⟨p0, 3, none⟩ (.bool true)).setCell ⟨p0, 4, none⟩ v) := ((Kp.refl _ w2).setCell (.inl (by simp)) _).setCell (.inl (by simp)) _
    exact ⟨false, true, v, MV, dat, [], rfl, heap_setCell_same _ p0 4 _ _ v (heap_setCell_same w2 p0 3 _ _ (.bool true) (k.blk hp (by simp))), o.kp kS (fun g hg2 => by have := o.2 g hg2; simp; omega), by rw [List.append_nil]; exact kS.own (k.own ho (by simp)) (fun g e => by simpa using hg g e), At.refl _ _,
      (k.mono (by simp)).trans kS (fun x hx => .inl (by simp at hx; simp [hx])), ht, fun e => by omega⟩⟩
  clear hn hr hnil hw hm ho hg h0 h2 hl1
  unfold jobRun at hp
  by_cases c1 : n0 = 1
  · subst c1
    obtain ⟨wh, hwh⟩ : ∃ b, decide (s2 = some []) = b := ⟨_, rfl⟩
    have HE : As (gEnd 1 s1 dat s2 = if wh = true then ⟨false, true, dat, [], 0⟩ else ⟨false, false, [], [], 3⟩) := ⟨by rw [gEnd, if_pos rfl, ← hwh]; simp⟩
    have HW := As.mk (H5.out s2)
    rw [hwh] at HW
    rw [HE.out]
    clear H4 H5 HF hwh HE
    cases wh
    all_goals
      go_enter Tryz.func49, Tryz.ntmps49
      go_wp2_with (first
        | (go_at_call 86; refine H1.out.mono ?_; rintro e w1 ⟨b, g, rfl, R, hb, hgb, k1⟩; have HB := As.mk hb; have HK1 := As.mk k1; have HNU := As.mk (H2.out w1 b ⟨g, R, fun x hx => (hgb x hx).1⟩); clear R hb hgb k1 H1 H2)
        | (go_at_call 87; refine HNU.out.mono ?_; rintro e w2 ⟨rfl, HR2, k2⟩; have HK2 : As (Kp [] w w2) := ⟨HK1.out.trans k2 (by intro x hx; simp at hx; subst hx; exact .inr HB.out)⟩; have HBY := As.mk (H3.out w2 b HR2.out); clear k2 HNU H3 HR2)
        | (go_at_call 88; refine HBY.out.mono ?_; rintro e w3 ⟨A5, n5, c5, rfl, HO⟩; have HK3 : As (Kp [] w w3) := ⟨HK2.out.trans HO.out.2.2 (by intro x hx; simp at hx; subst hx; exact .inr HB.out)⟩; have b3 := HK3.out.blk hp (by simp); have d3 := blk_cell b3 3 rfl; have d4 := blk_cell b3 4 rfl; have f3 := blk_free b3 3; have f4 := blk_free b3 4; have HWO := As.mk (HW.out ((w3.setCell ⟨p0, 3, none⟩ (.bool true)).setCell ⟨p0, 4, none⟩ (.slice A5 n5 c5)) b (HO.out.2.1.kp HB.out (((Kp.refl [p0] w3).setCell (.inl (by simp)) _).setCell (.inl (by simp)) _) (by intro x hx; simp at hx; subst hx; exact hpl))); clear HBY b3 HW)
        | (go_at_call 90; refine HWO.out.mono ?_; rintro e w4 ⟨rfl, rfl⟩; clear HWO))
      go_ret
      have h9 := fun t => HS.out t _ (.slice A5 n5 c5) HK3.out (HO.out.1.lower HK2.out.size)
      first
        | exact h9 ⟨false, true, dat, [], 0⟩ (fun _ => ⟨rfl, rfl, rfl, rfl⟩)
        | exact h9 ⟨false, false, [], [], 3⟩ (fun e => by cases e)
  · have c1b : ((n0 : Int) == 1) = false := by simp; omega
    by_cases c0 : n0 = 0
    · subst c0
      obtain ⟨wh, hwh⟩ : ∃ b, decide (s1 = some []) = b := ⟨_, rfl⟩
      have HE : As (gEnd 0 s1 dat s2 = if wh = true then ⟨false, false, [], [], 0⟩ else ⟨false, false, [], [], 3⟩) := ⟨by rw [gEnd, if_neg (by omega), ← hwh]; simp⟩
      have HW := As.mk (H5.out s1)
      rw [hwh] at HW
      rw [HE.out]
      clear H3 H4 H5 HS hwh HE
      cases wh
      all_goals
        go_enter Tryz.func49, Tryz.ntmps49
        go_wp2_with (first
        | (go_at_call 86; refine H1.out.mono ?_; rintro e w1 ⟨b, g, rfl, R, hb, hgb, k1⟩; have HB := As.mk hb; have HK1 := As.mk k1; have HNU := As.mk (H2.out w1 b ⟨g, R, fun x hx => (hgb x hx).1⟩); clear R hb hgb k1 H1 H2)
        | (go_at_call 87; refine HNU.out.mono ?_; rintro e w2 ⟨rfl, HR2, k2⟩; have HK2 : As (Kp [] w w2) := ⟨HK1.out.trans k2 (by intro x hx; simp at hx; subst hx; exact .inr HB.out)⟩; have HWO := As.mk (HW.out w2 b HR2.out); clear k2 HNU HR2 HW)
          | (go_at_call 90; refine HWO.out.mono ?_; rintro e w4 ⟨rfl, rfl⟩; clear HWO))
        go_ret
        have h9 := fun t => HF.out t _ HK2.out
        first
          | exact h9 ⟨false, false, [], [], 0⟩ (fun _ => ⟨rfl, rfl, rfl, rfl⟩)
          | exact h9 ⟨false, false, [], [], 3⟩ (fun e => by cases e)
    · have c0b : ((n0 : Int) != 0) = true := by simp; omega
      have HE : gEnd n0 s1 dat s2 = ⟨false, false, [], [], 3⟩ := by rw [gEnd, if_neg c1, if_neg (fun e => c0 e.1)]
      have HW := As.mk (H5.out none)
      rw [show decide ((none : Option (List Int)) = some []) = false by simp] at HW
      rw [HE]
      clear H3 H5 HS HE c1 c0
      go_enter Tryz.func49, Tryz.ntmps49
      go_wp2_with (first
        | (go_at_call 86; refine H1.out.mono ?_; rintro e w1 ⟨b, g, rfl, R, hb, hgb, k1⟩; have HB := As.mk hb; have HK1 := As.mk k1; have HNU := As.mk (H2.out w1 b ⟨g, R, fun x hx => (hgb x hx).1⟩); clear R hb hgb k1 H1 H2)
        | (go_at_call 87; refine HNU.out.mono ?_; rintro e w2 ⟨rfl, HR2, k2⟩; have HK2 : As (Kp [] w w2) := ⟨HK1.out.trans k2 (by intro x hx; simp at hx; subst hx; exact .inr HB.out)⟩; have HBA := As.mk (H4.out w2 b HR2.out); clear k2 HNU HR2 H4)
        | (go_at_call 89; refine HBA.out.mono ?_; rintro e w3 ⟨rfl, HR3, k3⟩; have HK3 : As (Kp [] w w3) := ⟨HK2.out.trans k3 (by intro x hx; simp at hx; subst hx; exact .inr HB.out)⟩; have HWO := As.mk (HW.out w3 b HR3.out); clear k3 HBA HR3 HW)
        | (go_at_call 90; refine HWO.out.mono ?_; rintro e w4 ⟨rfl, rfl⟩; clear HWO))
      go_ret
      exact HF.out ⟨false, false, [], [], 3⟩ _ HK3.out (fun e => by cases e)
end Go.Proofs.YtdiljpdohmeceaaGreat.co

/- coord: (*job).takes at a Find's answer; takes, whatever the job is. -/
namespace Go.Proofs.YtdiljpdohmeceaaGreat.co
open Go.RowKit H O opk frame wir

theorem dMs_form (xs : List Int) : (dMs xs).2 = 0 ∨ dMs xs = ([], 3) := by
  obtain ⟨n, s1, h⟩ : ∃ a b, stNum (some xs) = (a, b) := ⟨_, _, rfl⟩
  rw [dMs_eq h]
  split
  · exact .inl rfl
  · exact .inr rfl
theorem dMs_len (xs : List Int) : (dMs xs).1.length ≤ xs.length := by
  obtain ⟨n, s1, h⟩ : ∃ a b, stNum (some xs) = (a, b) := ⟨_, _, rfl⟩
  rw [dMs_eq h]
  split
  · rename_i h2
    have := mIter_count h2
    have h3 := reader.left_le (s := some xs) (m := xs.length) (by simp [left])
    rw [h] at h3
    simp only at h3
    simp only [List.length_nil] at this
    rw [mIter_len]
    omega
  · simp

set_option maxHeartbeats 8000000 in
set_option maxRecDepth 100000 in
theorem takes_find (p0 m : Nat) (MV : Value) (l : List (ByteArray × Int)) (ok : Int) (cid : Nat) (key : ByteArray) (c11 c12 c13 : Value) (A : Option Addr) (n c : Nat) (data : List Int) (w : World)
    (hp : w.heap[p0]? = some (jobRun m false false (.slice none 0 0) MV 2 ok cid key c11 c12 c13)) (ho : w.ownsRow 0 73 2 MV l.length (mv l)) (hg : ∀ g, MV.ownBlock = some g → g ≠ p0) (hl9 : l.length ≤ 1000000)
    (hn : data.length = n) (hr : Rd w A (iv .u8 data)) (hnil : A = none → c = 0) (hw : Wf data) (hm : n ≤ 50000) :
    Calls Tryz.prog 49 #[.pointer (some ⟨p0, 0, none⟩), .slice A n c] w (TkP p0 m MV l 2 ok cid key c11 c12 c13 (tookF data) w) := by
  have hpl := lt_of_block hp
  obtain ⟨l', z, hd⟩ : ∃ a b, dMs data = (a, b) := ⟨_, _, rfl⟩
  obtain ⟨n1, hn1⟩ : ∃ k, l'.length = k := ⟨_, rfl⟩
  have hn9 : n1 ≤ 50000 := by have := dMs_len data; rw [hd] at this; simp only at this; omega
  have H1 : As (Calls Tryz.prog 91 #[.slice A n c] w fun e w' => ∃ A1 c1, e = .returned (.tuple #[.slice A1 n1 c1, .int .i64 z]) ∧ As (Rd w' A1 (mv l') ∧ (A1 = none → c1 = 0) ∧ Kp [] w w')) := ⟨by
    refine (readMs_any A n c data w hn hr hnil hw hm).mono ?_
    rintro e w' ⟨l2, z2, A1, n2, c1, hd2, rfl, h1, h2, h3, h4, h5⟩
    rw [hd] at hd2
    cases hd2
    rw [hn1] at h1
    subst h1
    exact ⟨A1, c1, rfl, ⟨h2, h4, h5⟩⟩⟩
  have HT : As ((tookF data).err = z ∧ ((tookF data).err = 0 → tookF data = ⟨false, false, [], l', 0⟩)) := ⟨by
    rw [tookF, hd]
    rcases dMs_form data with h | h
    · rw [hd] at h
      simp only at h
      subst h
      exact ⟨rfl, fun _ => rfl⟩
    · rw [hd] at h
      cases h
      exact ⟨rfl, fun e => by cases e⟩⟩
  obtain ⟨AM, cM, rfl, hM1, hM2, _, hM4⟩ := own_rd ho
  obtain ⟨N, hN⟩ : ∃ k, l.length = k := ⟨_, rfl⟩
  rw [hN] at hp ho hl9 hM1 hg
  rw [hN]
  have HN := As.mk (And.intro hN hn1)
  have HFIN : As (∀ (w1 w2 : World) (A1 : Option Addr) (c1 : Nat) (v : Value), Kp [] w w1 → w2.ownsRow 0 73 2 v (N + n1) (mv l ++ mv l') → Kp (Value.slice AM N cM).ownBlock.toList w1 w2 → At w1.heap.size (Value.slice AM N cM).ownBlock v.ownBlock →
      w2.cell? ⟨p0, 5, none⟩ = some (.slice AM N cM) ∧ w2.frozen? ⟨p0, 5, none⟩ = false ∧ As (TkP p0 m (.slice AM N cM) l 2 ok cid key c11 c12 c13 (tookF data) w (.returned (.int .i64 z)) (w2.setCell ⟨p0, 5, none⟩ v))) := ⟨fun w1 w2 A1 c1 v k1 o2 k2 a2 => by
    have hnp : p0 ∉ (Value.slice AM N cM).ownBlock.toList := fun e => (hg p0 (by simpa using e)) rfl
    have b2 := k2.blk (k1.blk hp (by simp)) hnp
    have kS : Kp [p0] w2 (w2.setCell ⟨p0, 5, none⟩ v) := (Kp.refl _ w2).setCell (.inl (by simp)) _
    have hv : ∀ g, v.ownBlock = some g → g ∉ [p0] := fun g e hm => by
      simp only [List.mem_singleton] at hm
      subst hm
      rcases a2 with e2 | ⟨k, e2, hk⟩
      · exact hg _ (by rw [← e2]; exact e) rfl
      · rw [e2] at e
        cases e
        have := k1.size
        omega
    refine ⟨blk_cell b2 5 rfl, blk_free b2 5, ⟨false, false, .slice none 0 0, v, [], l', by rw [HT.out.1], heap_setCell_same w2 p0 5 _ _ v b2, Own.nil _ _ _ _, ?_, a2.low k1.size, ?_, fun e => ?_, fun _ => ⟨rfl, rfl, rfl⟩⟩⟩
    · rw [List.length_append, HN.out.1, HN.out.2, mv_app]
      exact kS.own o2 hv
    · refine ((k1.mono (T := p0 :: (Value.slice AM N cM).ownBlock.toList) (by simp)).trans k2 (fun x hx => .inl (by simp at hx; simp [hx]))).trans kS (fun x hx => .inl (by simp at hx; simp [hx]))
    · rw [HT.out.2 e]
      exact ⟨rfl, rfl, rfl, rfl⟩⟩
  have HOW : As (∀ w1, Kp [] w w1 → w1.ownsRow 0 73 2 (.slice AM N cM) N (mv l)) := ⟨fun w1 k => k.own ho (by simp)⟩
  have HML : As ((mv l').length = n1 * 2 ∧ (∀ u ∈ mv l', u.oneCell' = true)) := ⟨by rw [mv_len, hn1], mv_one l'⟩
  have a6 := blk_cell hp 6 rfl
  clear hn hr hnil hw hm ho hg hd hN hn1 hM1 hM2 hM4
  unfold jobRun at hp
  go_enter Tryz.func49, Tryz.ntmps49
  go_wp2_with (first
    | (go_at_call 91; refine H1.out.mono ?_; rintro e w1 ⟨A1, c1, rfl, HD⟩; have b6 := HD.out.2.2.blk hp (by simp); have a5 := blk_cell b6 5 rfl; clear H1 b6)
    | (at_builtin; refine wpList_app rfl (.tmp 94) (.tmp 95) 59 rfl 73 (.agg #[.string ⟨#[]⟩, .int .i64 0]) 2 24 Tryz.underlying59 reader.info_match (by kernel_rfl) (by decide) (.slice AM N cM) N (mv l) rfl (HOW.out w1 HD.out.2.2) A1 n1 c1 (mv l') rfl HML.out.1 HD.out.1 HD.out.2.1 HML.out.2 (by omega) (by omega) ?_; intro v2 w2 o2 k2 a2 _; obtain ⟨A2, c2, rfl, _⟩ := own_rd o2; obtain ⟨y5, z5, HZ⟩ := HFIN.out w1 w2 A1 c1 _ HD.out.2.2 o2 k2 a2; clear o2 k2 a2))
  go_ret
  exact HZ.out

/-- takes, whatever the job is -/
theorem takes_any (j : Job) (hj : JobOk j) (p0 m : Nat) (MV : Value) (l : List (ByteArray × Int)) (cid : Nat) (key : ByteArray) (c11 c12 c13 : Value) (A : Option Addr) (n c : Nat) (data : List Int) (w : World)
    (hp : w.heap[p0]? = some (jobRun m false false (.slice none 0 0) MV (wkind j) (okind j) cid key c11 c12 c13)) (ho : w.ownsRow 0 73 2 MV l.length (mv l)) (hg : ∀ g, MV.ownBlock = some g → g ≠ p0) (hl9 : l.length ≤ 1000000)
    (hn : data.length = n) (hr : Rd w A (iv .u8 data)) (hnil : A = none → c = 0) (hw : Wf data) (hm : n ≤ 50000) :
    Calls Tryz.prog 49 #[.pointer (some ⟨p0, 0, none⟩), .slice A n c] w (TkP p0 m MV l (wkind j) (okind j) cid key c11 c12 c13 (took j data) w) := by
  have hk := hj.kind
  rcases (by omega : j.kind = 1 ∨ j.kind = 2 ∨ j.kind = 3 ∨ j.kind = 4) with e | e | e | e
  · have e1 : wkind j = 1 := by simp [wkind, e]
    have e2 : okind j = 1 := by simp [okind, e]
    have e3 : took j data = tookW (decide ((1 : Int) = 2)) data := by simp [took, e]
    rw [e1, e2, e3]
    rw [e1, e2] at hp
    exact takes_write p0 m MV l 1 cid key c11 c12 c13 A n c data w hp ho hg hn hr hnil hw hm
  · have e1 : wkind j = 1 := by simp [wkind, e]
    have e2 : okind j = 2 := by simp [okind, e]
    have e3 : took j data = tookW (decide ((2 : Int) = 2)) data := by simp [took, e]
    rw [e1, e2, e3]
    rw [e1, e2] at hp
    exact takes_write p0 m MV l 2 cid key c11 c12 c13 A n c data w hp ho hg hn hr hnil hw hm
  · have e1 : wkind j = 3 := by simp [wkind, e]
    have e3 : took j data = tookG data := by simp [took, e]
    rw [e1, e3]
    rw [e1] at hp
    exact takes_get p0 m MV l _ cid key c11 c12 c13 A n c data w hp ho hg hn hr hnil hw hm
  · have e1 : wkind j = 2 := by simp [wkind, e]
    have e3 : took j data = tookF data := by simp [took, e]
    rw [e1, e3]
    rw [e1] at hp
    exact takes_find p0 m MV l _ cid key c11 c12 c13 A n c data w hp ho hg hl9 hn hr hnil hw hm
end Go.Proofs.YtdiljpdohmeceaaGreat.co

/- haystacklaw24: the pair: one who asks, and the document's. -/
namespace Go.Proofs.YtdiljpdohmeceaaGreat.co
open Go.RowKit H O opk frame wir
open cr (RLay RsSt RNewJ RGrew)

def lCfg (id pat tr : Nat) : Cfg := ⟨id, pat, tr, [[0, 1, 2], [1, 3]]⟩
theorem grp012 : Grp [0, 1, 2] := ⟨by decide, fun i h => by
  have : i = 0 ∨ i = 1 ∨ i = 2 := by simp at h; omega
  rcases this with rfl | rfl | rfl
  · exact ⟨by simp, by omega⟩
  · exact ⟨by simp, fun _ => by simp⟩
  · exact ⟨by simp, fun _ => by simp⟩⟩
theorem grp13 : Grp [1, 3] := ⟨by decide, fun i h => by
  have : i = 0 ∨ i = 1 := by simp at h; omega
  rcases this with rfl | rfl
  · exact ⟨by simp, by omega⟩
  · exact ⟨by simp, fun _ => by simp⟩⟩
theorem lCfg_grp (id pat tr : Nat) : ∀ x ∈ (lCfg id pat tr).shards, Grp x := fun x hx => by
  simp only [lCfg, List.mem_cons, List.not_mem_nil, or_false] at hx
  rcases hx with rfl | rfl
  · exact grp012
  · exact grp13
theorem lCfg_ok {id pat tr : Nat} (h1 : 7 ≤ id ∧ id ≤ 255) (h2 : 1 ≤ pat ∧ pat ≤ 1000) (h3 : 1 ≤ tr ∧ tr ≤ 1000) : CfgOk (lCfg id pat tr) := ⟨h1, h2, h3, by show 1 ≤ 2 ∧ 2 ≤ 8; omega, lCfg_grp id pat tr⟩
/-- the pair -/
structure PairP (U : List Nat) (w : World) (P : Nat) (L : Lay) (M : RLay) (cf : Cfg) (s t : Cs) (WV : Value) : Prop where
  hd : w.heap[P]? = some (.cells #[.pointer (some ⟨L.b, 0, none⟩), .pointer (some ⟨M.b, 0, none⟩), WV] 33 (0, 0))
  c : CoSt (P :: (M.all ++ U)) w L cf s
  x : RsSt (P :: (L.all ++ U)) w M cf t
theorem CoSt.apart {U : List Nat} {w : World} {L : Lay} {cf : Cfg} {s : Cs} (h : CoSt U w L cf s) : ∀ x ∈ U, x ∉ L.all := by
  obtain ⟨κ, VS, VW, VJ, VD, MV, AV, l, h⟩ := h
  intro x hx hm
  have := (h.sep.U x hx).1
  have := (h.sep.pos hm).1
  omega
theorem cr.RsSt.apart {U : List Nat} {w : World} {L : RLay} {cf : Cfg} {s : Cs} (h : RsSt U w L cf s) : ∀ x ∈ U, x ∉ L.all := by
  obtain ⟨κ, VS, VW, VL, VA, VD, h⟩ := h
  intro x hx hm
  have := (h.sep.U x hx).1
  have := (h.sep.pos hm).1
  omega
theorem PairP.kp {U V : List Nat} {w w1 : World} {P : Nat} {L : Lay} {M : RLay} {cf : Cfg} {s t : Cs} {WV : Value} (h : PairP U w P L M cf s t WV) (k : Kp V w w1) (hV : ∀ x ∈ V, x ∈ U ∨ w.heap.size ≤ x) (hP : P ∉ V) : PairP U w1 P L M cf s t WV :=
  ⟨k.blk h.hd hP, h.c.kp k (fun x hx => (hV x hx).imp (fun e => by simp [e]) id) (fun x hx => .inl hx), h.x.kp k (fun x hx => (hV x hx).imp (fun e => by simp [e]) id) (fun x hx => .inl hx)⟩
/-- the program's one goes on -/
theorem PairP.prog {U : List Nat} {w w1 : World} {P : Nat} {L L1 : Lay} {M : RLay} {cf : Cfg} {s t s1 : Cs} {WV : Value} (h : PairP U w P L M cf s t WV) (hc : CoSt (P :: (M.all ++ U)) w1 L1 cf s1) (g : Grew w L L1) (k : Kp L.all w w1) : PairP U w1 P L1 M cf s1 t WV := by
  refine ⟨?_, hc, h.x.kp k (fun x hx => .inl (by simp [hx])) (fun x hx => ?_)⟩
  · rw [g.1]
    exact k.blk h.hd (h.c.apart P (by simp))
  · have hlt := hc.lt
    simp only [List.mem_cons, List.mem_append] at hx ⊢
    rcases hx with e | e | e
    · exact .inl (.inl e)
    · rcases g.2 x e with e2 | e2
      · exact .inl (.inr (.inl e2))
      · exact .inr ⟨e2, hlt x (List.mem_append.2 (.inl e))⟩
    · exact .inl (.inr (.inr e))
/-- the document's goes on -/
theorem PairP.docu {U : List Nat} {w w1 : World} {P : Nat} {L : Lay} {M M1 : RLay} {cf : Cfg} {s t t1 : Cs} {WV : Value} (h : PairP U w P L M cf s t WV) (hc : RsSt (P :: (L.all ++ U)) w1 M1 cf t1) (g : RGrew w M M1) (k : Kp M.all w w1) : PairP U w1 P L M1 cf s t1 WV := by
  refine ⟨?_, h.c.kp k (fun x hx => .inl (by simp [hx])) (fun x hx => ?_), hc⟩
  · rw [g.1]
    exact k.blk h.hd (cr.RsSt.apart h.x P (by simp))
  · have hlt := hc.lt
    simp only [List.mem_cons, List.mem_append] at hx ⊢
    rcases hx with e | e | e
    · exact .inl (.inl e)
    · rcases g.2 x e with e2 | e2
      · exact .inl (.inr (.inl e2))
      · exact .inr ⟨e2, hlt x (List.mem_append.2 (.inl e))⟩
    · exact .inl (.inr (.inr e))

set_option maxHeartbeats 4000000 in
set_option maxRecDepth 100000 in
theorem start_good (id pat tr : Nat) (w : World) (h1 : 7 ≤ id ∧ id ≤ 255) (h2 : 1 ≤ pat ∧ pat ≤ 1000) (h3 : 1 ≤ tr ∧ tr ≤ 1000) :
    Calls Tryz.prog 8 #[.int .i64 (id : Int), .int .i64 (pat : Int), .int .i64 (tr : Int)] w fun e w' => ∃ P L M, e = .returned (.tuple #[.pointer (some ⟨P, 0, none⟩), .bool true]) ∧
      As (∀ U, (∀ x ∈ U, x < w.heap.size) → PairP U w' P L M (lCfg id pat tr) (newCs 2) (newCs 2) (.slice none 0 0)) ∧ As ((∀ x ∈ P :: (L.all ++ M.all), w.heap.size ≤ x) ∧ Kp [] w w') := by
  have H1 : As (Calls Tryz.prog 24 #[.int .i64 (id : Int), .int .i64 (pat : Int), .int .i64 (tr : Int), .slice (some ⟨w.heap.size + 1 + 1, 0, none⟩) 2 2] (((w.alloc (.cells #[.int .i64 0, .int .i64 1, .int .i64 2] 3)).alloc (.cells #[.int .i64 1, .int .i64 3] 3)).alloc (.cells #[.slice (some ⟨w.heap.size, 0, none⟩) 3 3, .slice (some ⟨w.heap.size + 1, 0, none⟩) 2 2] 53)) fun e w' => ∃ L : Lay, e = .returned (.tuple #[.pointer (some ⟨L.b, 0, none⟩), .int .i64 0]) ∧
      As ((∀ U, (∀ x ∈ U, x < w.heap.size) → CoSt U w' L (lCfg id pat tr) (newCs 2)) ∧ (∀ x ∈ L.all, w.heap.size ≤ x) ∧ Kp [] w w')) := ⟨by
    refine (new_good id pat tr (some ⟨w.heap.size + 1 + 1, 0, none⟩) 2 2 [[0, 1, 2], [1, 3]] _ rfl (ri_two w [0, 1, 2] [1, 3] 3 2 rfl rfl _ _) (lCfg_grp id pat tr) h1 h2 h3 (by decide)).mono ?_
    rintro e w' ⟨L, rfl, hc, hl, hk⟩
    have k0 : Kp [] w (((w.alloc (.cells #[.int .i64 0, .int .i64 1, .int .i64 2] 3)).alloc (.cells #[.int .i64 1, .int .i64 3] 3)).alloc (.cells #[.slice (some ⟨w.heap.size, 0, none⟩) 3 3, .slice (some ⟨w.heap.size + 1, 0, none⟩) 2 2] 53)) := (((Kp.refl [] w).alloc _).alloc _).alloc _
    exact ⟨L, rfl, ⟨fun U hU => hc.out U (fun x hx => Nat.lt_of_lt_of_le (hU x hx) k0.size), fun x hx => Nat.le_trans k0.size (hl x hx), k0.trans hk (by simp)⟩⟩⟩
  have H2 : As (∀ w : World, Calls Tryz.prog 26 #[.int .i64 (id : Int), .int .i64 (pat : Int), .int .i64 (tr : Int), .slice (some ⟨w.heap.size + 1 + 1, 0, none⟩) 2 2] (((w.alloc (.cells #[.int .i64 0, .int .i64 1, .int .i64 2] 3)).alloc (.cells #[.int .i64 1, .int .i64 3] 3)).alloc (.cells #[.slice (some ⟨w.heap.size, 0, none⟩) 3 3, .slice (some ⟨w.heap.size + 1, 0, none⟩) 2 2] 53)) fun e w' => ∃ L : RLay, e = .returned (.tuple #[.pointer (some ⟨L.b, 0, none⟩), .int .i64 0]) ∧
      As ((∀ U, (∀ x ∈ U, x < w.heap.size) → RsSt U w' L (lCfg id pat tr) (newCs 2)) ∧ (∀ x ∈ L.all, w.heap.size ≤ x) ∧ Kp [] w w')) := ⟨fun w => by
    refine (cr.new_good id pat tr (some ⟨w.heap.size + 1 + 1, 0, none⟩) 2 2 [[0, 1, 2], [1, 3]] _ rfl (ri_two w [0, 1, 2] [1, 3] 3 2 rfl rfl _ _) (lCfg_grp id pat tr) h1 h2 h3 (by decide)).mono ?_
    rintro e w' ⟨L, rfl, hc, hl, hk⟩
    have k0 : Kp [] w (((w.alloc (.cells #[.int .i64 0, .int .i64 1, .int .i64 2] 3)).alloc (.cells #[.int .i64 1, .int .i64 3] 3)).alloc (.cells #[.slice (some ⟨w.heap.size, 0, none⟩) 3 3, .slice (some ⟨w.heap.size + 1, 0, none⟩) 2 2] 53)) := (((Kp.refl [] w).alloc _).alloc _).alloc _
    exact ⟨L, rfl, ⟨fun U hU => hc.out U (fun x hx => Nat.lt_of_lt_of_le (hU x hx) k0.size), fun x hx => Nat.le_trans k0.size (hl x hx), k0.trans hk (by simp)⟩⟩⟩
  clear h1 h2 h3
  go_enter Tryz.func8, Tryz.ntmps8
  go_wp2_with (first
    | (go_at_call 24; refine H1.out.mono ?_; rintro e w1 ⟨L, rfl, HL⟩; clear H1)
    | (go_at_call 26; refine (H2.out _).mono ?_; rintro e w2 ⟨M, rfl, HM⟩; clear H2))
  go_ret2
  have k1 := HL.out.2.2
  have k2 := HM.out.2.2
  have kA : Kp [] w2 (w2.alloc (.cells #[.pointer (some ⟨L.b, 0, none⟩), .pointer (some ⟨M.b, 0, none⟩), .slice none 0 0] 33)) := (Kp.refl [] w2).alloc _
  have s1 := k1.size
  have s2 := k2.size
  refine ⟨w2.heap.size, L, M, rfl, ⟨fun U hU => ⟨heap_alloc_new w2 _, ?_, ?_⟩⟩, ⟨fun x hx => ?_, (k1.trans k2 (by simp)).trans kA (by simp)⟩⟩
  · have h := HL.out.1 U hU
    have hm : ∀ x ∈ M.all, x < w2.heap.size := fun x hx => (HM.out.1 [] (by simp)).lt x (List.mem_append.2 (.inl hx))
    refine h.kp (k2.trans kA (by simp)) (by simp) (fun x hx => ?_)
    simp only [List.mem_cons, List.mem_append, World.size_alloc] at hx ⊢
    rcases hx with e | e | e
    · right; omega
    · have := hm x e
      have := HM.out.2.1 x e
      right; omega
    · exact .inl e
  · have hl : ∀ x ∈ L.all, x < w1.heap.size := fun x hx => (HL.out.1 [] (by simp)).lt x (List.mem_append.2 (.inl hx))
    have h := HM.out.1 (L.all ++ U) (fun x hx => (List.mem_append.1 hx).elim (fun e => hl x e) (fun e => by have := hU x e; omega))
    refine h.kp kA (by simp) (fun x hx => ?_)
    rcases List.mem_cons.1 hx with e | e
    · right; simp; omega
    · exact .inl e
  · simp only [List.mem_cons, List.mem_append] at hx
    rcases hx with e | e | e
    · omega
    · exact HL.out.2.1 x e
    · have := HM.out.2.1 x e; omega
end Go.Proofs.YtdiljpdohmeceaaGreat.co

/- coord: a Tick, whatever is on its way; what may be, stays. -/
namespace Go.Proofs.YtdiljpdohmeceaaGreat.co
open Go.RowKit H O opk frame wir

theorem tick_all (U : List Nat) (w : World) (L : Lay) (cf : Cfg) (s : Cs) (hC : CoSt U w L cf s) (ok : CsOk cf s) (wt : Wt cf s.asks) (hc : s.ctx + 8 ≤ 1099511627776) (he : s.ended + 1 ≤ 1099511627776) (hd : s.done.length ≤ 1000000) :
    Calls Tryz.prog 11 #[.pointer (some ⟨L.b, 0, none⟩)] w (TickPost U L cf (tick cf s) w) := by
  cases hj : s.jobs with
  | nil => exact tick_no U w L cf s hC hj
  | cons j r =>
    by_cases ha : s.asks = []
    · exact tick_begin U w L cf s j r hC ok hj ha hc he
    · exact tick_run U w L cf s j r hC ok wt hj ha hd

theorem tkGo_ok {cf : Cfg} {s : Cs} : ∀ (f k : Nat) (wh : List Nat) (az : List Ask) (out : List Msg), CsOk cf { s with whom := wh, asks := az } → Wt cf az → s.jobs ≠ [] →
    CsOk cf { s with whom := (tkGo cf f k wh az out).1, asks := (tkGo cf f k wh az out).2.1 } ∧ ((tkGo cf f k wh az out).2.2.2 = false → Wt cf (tkGo cf f k wh az out).2.1)
  | 0, k, wh, az, out, ok, wt, _ => ⟨ok, fun _ => wt⟩
  | f + 1, k, wh, az, out, ok, wt, hn => by
    cases haz : az[k]? with
    | none =>
      have e : tkGo cf (f + 1) k wh az out = (wh, az, out, false) := by simp only [tkGo, haz]
      rw [e]
      exact ⟨ok, fun _ => wt⟩
    | some a =>
      have hm : a ∈ az := List.mem_of_getElem? haz
      have hok : AskOk cf s.ctx a := ok.asks a hm
      have hp := ok.cfg.pat
      have hw := wt a hm
      rw [tkGo_step cf f k wh az out a haz]
      by_cases h1 : a.answered = true
      · rw [if_pos h1]
        exact tkGo_ok f (k + 1) wh az out ok wt hn
      · rw [if_neg h1]
        have hA : AskOk cf s.ctx { a with waited := a.waited + 1 } := ⟨hok.shard, hok.ctx, hok.frame, hok.tried, by show a.waited + 1 ≤ 1001; omega⟩
        by_cases h2 : a.waited + 1 < cf.pat
        · rw [if_pos h2]
          exact tkGo_ok f (k + 1) wh _ out (ok.ask k hA) (wt.set k h2) hn
        · rw [if_neg h2]
          by_cases h3 : cf.tries ≤ a.tried
          · rw [if_pos h3]
            exact ⟨ok.ask k hA, fun e => by simp at e⟩
          · rw [if_neg h3]
            have hB : AskOk cf s.ctx { a with waited := 0, tried := a.tried + 1, hinted := false } := ⟨hok.shard, hok.ctx, hok.frame, by show a.tried + 1 ≤ cf.tries; omega, by show 0 ≤ 1001; omega⟩
            have h4 := ok.ask k hB
            exact tkGo_ok f (k + 1) _ _ _ (h4.next hok.shard) (wt.set k (by show 0 < cf.pat; omega)) hn
theorem endErr_ok {cf : Cfg} {s : Cs} (h : CsOk cf s) (r : Res) : CsOk cf (endJob s r) := ⟨h.cfg, h.wlen, h.whom, fun j hj => h.jobs j (List.mem_of_mem_tail hj), fun a ha => by simp [endJob] at ha, fun _ => rfl, by simp [endJob]⟩
theorem tick_inv {cf : Cfg} {s : Cs} (ok : CsOk cf s) (wt : Wt cf s.asks) : CsOk cf (tick cf s).1 ∧ Wt cf (tick cf s).1.asks := by
  cases hj : s.jobs with
  | nil => rw [tick_none hj]; exact ⟨ok, wt⟩
  | cons j r =>
    have hjk : JobOk j := ok.jobs j (by rw [hj]; simp)
    have hn : s.jobs ≠ [] := by rw [hj]; simp
    have hl := ok.cfg.len
    by_cases ha : s.asks = []
    · rw [tick_new hj ha]
      refine ⟨ok.asksTo (mkAsks_ok hjk (by omega) ok.cfg.tries.1) ?_ hn, fun a h => ?_⟩
      · rw [mkAsks_len]
        have := (jshards_len (j := j) hl.1).2
        omega
      · have hp := ok.cfg.pat
        obtain ⟨i, hi⟩ := List.getElem?_of_mem h
        have hlt : i < (jshards cf j).length := by
          obtain ⟨h9, _⟩ := List.getElem?_eq_some_iff.1 hi
          rw [mkAsks_len] at h9
          exact h9
        rw [mkAsks_get _ _ _ _ _ _ _ hlt] at hi
        cases hi
        show 0 < cf.pat
        omega
    · have hg := tkGo_ok (s := s) s.asks.length 0 s.whom s.asks [] ok wt hn
      obtain ⟨⟨wh, az, out, b⟩, hgo⟩ : ∃ x, tkGo cf s.asks.length 0 s.whom s.asks [] = x := ⟨_, rfl⟩
      rw [hgo] at hg
      cases b with
      | true => rw [tick_end hj ha hgo]; exact ⟨endErr_ok hg.1 _, fun a h => by simp [endErr, endJob] at h⟩
      | false => rw [tick_go hj ha hgo]; exact ⟨hg.1, hg.2 rfl⟩
end Go.Proofs.YtdiljpdohmeceaaGreat.co
