/- MERGED: Heap Crc Crc2 FrameP Four8 App Clone Octet Join FrameA AppFull Sum Vals FrameB Slices FrameC FrameS -/
import Derived.WalkKit
import Derived.Below
import Derived.Deep.Draws
import Derived.Deep.QuietTactic
import Derived.BigQuiet
import Derived.Deep.LoopGhost
import Derived.Laws.OwnMore
import Derived.OneCell
import Derived.Laws.Rows
import Derived.ChangeShapes
import Derived.Test.YtdiljpdohmeceaaGreatProg
import Derived.Deep.RegionHeld3
import Derived.WalkSpells
import Derived.Laws.CopyOwn
import Derived.Laws.Slices
import Derived.Lib.MakeNoZero
import Derived.Laws.Externs
import Derived.ChangeKeysEq
import Derived.Laws.BytesArg
/- Words on memory that this seat's own proofs use: what a call may have written (Kp), what a slice reads as (Rd), lists of bytes and numbers. Plain definitions and theorems over any program. -/
namespace Go.Proofs.YtdiljpdohmeceaaGreat.H
open Go.RowKit

/-- A fact that the walk does not look into. -/
structure As (p : Prop) : Prop where mk :: (out : p)

/-- Of what lay in w nothing has turned but the blocks of S; blocks may have come. -/
structure Kp (S : List Nat) (w w' : World) : Prop where
  os : w'.os = w.os
  tape : w'.tape = w.tape
  output : w'.output = w.output
  size : w.heap.size ≤ w'.heap.size
  block : ∀ k, k < w.heap.size → k ∉ S → w'.heap[k]? = w.heap[k]?

theorem Kp.refl (S : List Nat) (w : World) : Kp S w w := ⟨rfl, rfl, rfl, Nat.le_refl _, fun _ _ _ => rfl⟩
theorem Kp.trans {S T : List Nat} {w w1 w2 : World} (h : Kp S w w1) (k : Kp T w1 w2) (hT : ∀ x ∈ T, x ∈ S ∨ w.heap.size ≤ x) : Kp S w w2 :=
  ⟨k.os.trans h.os, k.tape.trans h.tape, k.output.trans h.output, Nat.le_trans h.size k.size, fun i hi hn =>
    (k.block i (Nat.lt_of_lt_of_le hi h.size) (fun ht => by
      rcases hT i ht with h1 | h1
      · exact hn h1
      · exact absurd hi (by omega))).trans (h.block i hi hn)⟩
theorem Kp.row {S : List Nat} {g : Option Nat} {w w1 w2 : World} (h : Kp S w w1) (k : Kp g.toList w1 w2) (hg : ∀ x, g = some x → x ∈ S ∨ w.heap.size ≤ x) : Kp S w w2 :=
  h.trans k (fun x hx => hg x (by simpa using hx))
theorem Kp.mono {S T : List Nat} {w w1 : World} (h : Kp S w w1) (hT : ∀ x ∈ S, x ∈ T ∨ w.heap.size ≤ x) : Kp T w w1 := (Kp.refl T w).trans h hT
theorem Kp.below {w w' : World} (h : Kp [] w w') : Below w.heap.size w w' := ⟨h.os, h.tape, h.output, h.size, fun k hk => h.block k hk (by simp)⟩
theorem Kp.of_below {w w' : World} (h : Below w.heap.size w w') (S : List Nat) : Kp S w w' := ⟨h.os, h.tape, h.output, h.size, fun k hk _ => h.block k hk⟩
theorem Kp.alloc {S : List Nat} {w w1 : World} (h : Kp S w w1) (o : Obj) : Kp S w (w1.alloc o) :=
  h.trans (T := []) ⟨rfl, rfl, rfl, by simp, fun k hk _ => Below.heap_alloc w1 o k hk⟩ (by simp)
theorem Kp.drew {S : List Nat} {w w1 : World} (h : Kp S w w1) : Kp S w w1.drew := ⟨h.os, h.tape, h.output, h.size, h.block⟩
theorem Kp.drewN {S : List Nat} {w w1 : World} (h : Kp S w w1) (n : Nat) : Kp S w (w1.drewN n) := ⟨h.os, h.tape, h.output, h.size, h.block⟩
theorem Kp.setCell {S : List Nat} {w w1 : World} (h : Kp S w w1) {a : Addr} (ha : a.block ∈ S ∨ w.heap.size ≤ a.block) (u : Value) : Kp S w (w1.setCell a u) :=
  h.trans (T := [a.block]) ⟨rfl, rfl, rfl, by simp, fun k _ hk => heap_setCell_other w1 a k u (by simpa using hk)⟩ (by simpa using ha)
theorem Kp.grown {S : List Nat} {w w1 w2 : World} {row : Option Nat} (h : Kp S w w1) (hg : w1.grownBy w2 row) (hr : ∀ k, row = some k → k ∈ S ∨ w.heap.size ≤ k) : Kp S w w2 :=
  h.trans (T := row.toList) ⟨hg.os, hg.tape, hg.output, hg.size, fun k hk hn => hg.block k hk (by rintro rfl; simp at hn)⟩ (by cases row <;> simp_all)
theorem Kp.cell {S : List Nat} {w w1 : World} (h : Kp S w w1) {a : Addr} {v : Value} (hc : w.cell? a = some v) (ha : a.block ∉ S) : w1.cell? a = some v :=
  (World.cell?_of_block (h.block _ (World.block_lt_of_cell? w a hc) ha)).trans hc
theorem Kp.blk {S : List Nat} {w w1 : World} (h : Kp S w w1) {k : Nat} {o : Obj} (hb : w.heap[k]? = some o) (hk : k ∉ S) : w1.heap[k]? = some o :=
  (h.block k (lt_of_block hb) hk).trans hb
theorem Kp.own {S : List Nat} {w w1 : World} (h : Kp S w w1) {base : Nat} {e : TypeId} {size : Nat} {v : Value} {n : Nat} {xs : List Value} (ho : w.ownsRow base e size v n xs)
    (hv : ∀ k, v.ownBlock = some k → k ∉ S) : w1.ownsRow base e size v n xs := by
  refine ⟨ho.1, ?_⟩
  rcases ho.2 with hn | ⟨g, cap, cur, rfl, hb, hgg, rest⟩
  · exact .inl hn
  · exact .inr ⟨g, cap, cur, rfl, hb, h.blk hgg (hv g rfl), rest⟩

/-- A row's own store. -/
theorem own_store {w : World} {e : TypeId} {g n cap : Nat} {xs : List Value} (h : w.ownsRow 0 e 1 (.slice (some ⟨g, 0, none⟩) n cap) n xs) (j : Nat) (hj : j < n) (u : Value) :
    (∃ x, w.cell? ⟨g, j, none⟩ = some x) ∧ w.frozen? ⟨g, j, none⟩ = false ∧ (w.setCell ⟨g, j, none⟩ u).ownsRow 0 e 1 (.slice (some ⟨g, 0, none⟩) n cap) n (xs.set j u) := by
  have hx : xs.length = n := by simpa using h.1
  refine ⟨⟨xs[j], ?_⟩, h.frozenAt j, (h.stored j u).1⟩
  rw [h.cellAt j (by omega)]
  simp

/-- What a slice's address gives: the cells vs. -/
def Rd (w : World) (A : Option Addr) (vs : List Value) : Prop :=
  ∀ j v, vs[j]? = some v → ∃ a, A = some a ∧ w.cell? (a.add j) = some v
/-- The address lies in none of these blocks. -/
def Off (S : List Nat) (A : Option Addr) : Prop := ∀ a, A = some a → a.block ∉ S

theorem add_block (a : Addr) (n : Nat) : (a.add n).block = a.block := by unfold Addr.add; split <;> rfl
theorem Kp.rd {S : List Nat} {w w1 : World} (h : Kp S w w1) {A : Option Addr} {vs : List Value} (hr : Rd w A vs) (ho : Off S A) : Rd w1 A vs := by
  intro j v hv
  obtain ⟨a, rfl, hc⟩ := hr j v hv
  exact ⟨a, rfl, h.cell hc (by rw [add_block]; exact ho a rfl)⟩
theorem Rd.lt {w : World} {A : Option Addr} {vs : List Value} (h : Rd w A vs) (hn : 0 < vs.length) : ∃ a, A = some a ∧ a.block < w.heap.size := by
  obtain ⟨a, ha, hc⟩ := h 0 vs[0] (by simp)
  exact ⟨a, ha, by have := World.block_lt_of_cell? w _ hc; rwa [add_block] at this⟩
/-- Blocks that are not there yet can't be read. -/
theorem Kp.rd_new {S : List Nat} {w w1 : World} (h : Kp S w w1) {A : Option Addr} {vs : List Value} (hr : Rd w A vs) (ho : ∀ x ∈ S, w.heap.size ≤ x) : Rd w1 A vs := by
  intro j v hv
  obtain ⟨a, rfl, hc⟩ := hr j v hv
  have hl := World.block_lt_of_cell? w _ hc
  exact ⟨a, rfl, h.cell hc (fun hm => by have := ho _ hm; omega)⟩

theorem Rd.nil (w : World) (A : Option Addr) : Rd w A [] := fun j v h => by simp at h

theorem add_zero' (a : Addr) : a.add 0 = a := by unfold Addr.add; split <;> simp_all
theorem add_add' (a : Addr) (i j : Nat) : (a.add i).add j = a.add (i + j) := by
  obtain ⟨b, o, s⟩ := a
  cases s <;> simp only [Addr.add] <;> (repeat' split) <;> simp_all <;> omega
theorem Rd.take {w : World} {A : Option Addr} {vs : List Value} (h : Rd w A vs) (n : Nat) : Rd w A (vs.take n) := by
  intro j v hv
  rw [List.getElem?_take] at hv
  split at hv
  · exact h j v hv
  · cases hv
theorem Rd.drop {w : World} {a : Addr} {vs : List Value} (h : Rd w (some a) vs) (n : Nat) : Rd w (some (a.add n)) (vs.drop n) := by
  intro j v hv
  rw [List.getElem?_drop] at hv
  obtain ⟨a', ha, hc⟩ := h (n + j) v hv
  cases ha
  exact ⟨_, rfl, by rw [add_add']; exact hc⟩
/-- Where a slice begins that was cut at its head. -/
def cutAt (a : Addr) (c n : Nat) : Addr := if c = n then a else a.add n
theorem cutAt_block (a : Addr) (c n : Nat) : (cutAt a c n).block = a.block := by unfold cutAt; split; rfl; exact add_block a n
theorem Rd.cut {w : World} {a : Addr} {vs : List Value} {c n : Nat} (h : Rd w (some a) vs) (hc : vs.length ≤ c) : Rd w (some (cutAt a c n)) (vs.drop n) := by
  unfold cutAt
  split
  · rw [List.drop_of_length_le (by omega)]
    exact Rd.nil _ _
  · exact h.drop n
theorem Rd.app {w : World} {A : Option Addr} {vs us : List Value} (h : Rd w A (vs ++ us)) : Rd w A vs := by
  intro j v hv
  exact h j v (by rw [List.getElem?_append_left (List.getElem?_eq_some_iff.1 hv).1]; exact hv)

/-- A list's numbers as values. -/
def iv (k : IntKind) (xs : List Int) : List Value := xs.map (Value.int k)
theorem iv_len (k : IntKind) (xs : List Int) : (iv k xs).length = xs.length := by simp [iv]
theorem iv_app (k : IntKind) (xs ys : List Int) : iv k (xs ++ ys) = iv k xs ++ iv k ys := by simp [iv]
theorem iv_take (k : IntKind) (xs : List Int) (n : Nat) : (iv k xs).take n = iv k (xs.take n) := by simp [iv, List.map_take]
theorem iv_drop (k : IntKind) (xs : List Int) (n : Nat) : (iv k xs).drop n = iv k (xs.drop n) := by simp [iv, List.map_drop]
theorem iv_one (k : IntKind) (xs : List Int) : ∀ u ∈ iv k xs, u.oneCell' = true := by
  intro u hu
  obtain ⟨_, _, rfl⟩ := List.mem_map.1 hu
  rfl
theorem iv_get (k : IntKind) (xs : List Int) (j : Nat) (h : j < xs.length) : (iv k xs)[j]? = some (.int k xs[j]) := by simp [iv, h]
/-- An element, as the walk asks for it. -/
def rd (xs : List Int) (i : Int) : Int := xs.getD i.toNat 0
theorem rd_nat (xs : List Int) (i : Nat) (h : i < xs.length) : rd xs (i : Int) = xs[i] := by simp [rd, h]
theorem Rd.int {w : World} {A : Option Addr} {k : IntKind} {xs : List Int} (h : Rd w A (iv k xs)) (i : Nat) (hi : i < xs.length) :
    ∃ a, A = some a ∧ w.cell? (a.add i) = some (.int k xs[i]) := h i _ (iv_get k xs i hi)

/-- Owned cells read. -/
theorem own_rd {w : World} {base : Nat} {e : TypeId} {size : Nat} {v : Value} {n : Nat} {xs : List Value} (h : w.ownsRow base e size v n xs) :
    ∃ A c, v = .slice A n c ∧ n ≤ c ∧ c ≤ maxLen ∧ Rd w A xs ∧ (A = none → c = 0) := by
  rcases h.2 with ⟨rfl, rfl⟩ | ⟨g, cap, cur, rfl, hb, hh, h1, h2, h3, h4⟩
  · have : xs = [] := List.eq_nil_of_length_eq_zero (by simpa using h.1)
    subst this
    exact ⟨none, 0, rfl, Nat.le_refl _, Nat.zero_le _, Rd.nil _ _, fun _ => rfl⟩
  · exact ⟨_, cap, rfl, h1, h2, fun j u hu => ⟨_, rfl, h.cells (g := g) rfl j u hu⟩, by simp⟩
theorem own_form {w : World} {base : Nat} {e : TypeId} {size : Nat} {v : Value} {n : Nat} {xs : List Value} (h : w.ownsRow base e size v n xs) (hn : 0 < n) :
    ∃ g cap, v = .slice (some ⟨g, 0, none⟩) n cap ∧ n ≤ cap ∧ cap ≤ 9223372036854775807 := by
  rcases h.2 with ⟨rfl, rfl⟩ | ⟨g, cap, cur, rfl, hb, hh, h1, h2, h3, h4⟩
  · omega
  · exact ⟨g, cap, rfl, h1, h2⟩
/-- A row cut short. -/
theorem own_take {w : World} {base : Nat} {e : TypeId} {v : Value} {g n m cap : Nat} {xs : List Value} (h : w.ownsRow base e 1 v n xs) (hv : v = .slice (some ⟨g, 0, none⟩) n cap) (hm : m ≤ n) :
    w.ownsRow base e 1 (.slice (some ⟨g, 0, none⟩) m cap) m (xs.take m) := by
  subst hv
  rcases h.2 with ⟨h1, _⟩ | ⟨g', cap', cur, h0, hb, hh, h1, h2, h3, h4⟩
  · cases h1
  · cases h0
    have hx : xs.length = n := by simpa using h.1
    refine ⟨by simp; omega, .inr ⟨g, cap, cur, rfl, hb, hh, by omega, h2, h3, ?_⟩⟩
    rw [← h4, List.take_take]
    congr 1
    omega
theorem own_lt {w : World} {base : Nat} {e : TypeId} {size : Nat} {v : Value} {n : Nat} {xs : List Value} (h : w.ownsRow base e size v n xs) (k : Nat) (hk : v.ownBlock = some k) : k < w.heap.size := (h.lt k hk).2
theorem own_base {w : World} {base base' : Nat} {e : TypeId} {size : Nat} {v : Value} {n : Nat} {xs : List Value} (h : w.ownsRow base e size v n xs) (hb : ∀ k, v.ownBlock = some k → base' ≤ k) : w.ownsRow base' e size v n xs := by
  refine ⟨h.1, ?_⟩
  rcases h.2 with h2 | ⟨g, cap, cur, rfl, _, r⟩
  · exact .inl h2
  · exact .inr ⟨g, cap, cur, rfl, hb g rfl, r⟩

theorem blk_alloc {w : World} {k : Nat} {o : Obj} (h : w.heap[k]? = some o) (x : Obj) : (w.alloc x).heap[k]? = some o := (Below.heap_alloc w x k (lt_of_block h)).trans h
theorem blk_set_far {w : World} {k : Nat} {o : Obj} (h : w.heap[k]? = some o) {a : Addr} (ha : k ≠ a.block) (u : Value) : (w.setCell a u).heap[k]? = some o := (heap_setCell_other w a k u ha).trans h
theorem blk_cell {w : World} {b : Nat} {cs : Array Value} {t : TypeId} (h : w.heap[b]? = some (.cells cs t (0, 0))) (j : Nat) {v : Value} (hv : cs[j]? = some v) : w.cell? ⟨b, j, none⟩ = some v := (cell_of_row w b j cs t (0, 0) h).trans hv
theorem ownBlock_slice (A : Option Addr) (n c : Nat) : (Value.slice A n c).ownBlock = A.map Addr.block := by cases A <;> rfl
theorem blk_free {w : World} {b : Nat} {cs : Array Value} {t : TypeId} (h : w.heap[b]? = some (.cells cs t (0, 0))) (j : Nat) : w.frozen? ⟨b, j, none⟩ = false := frozen_of_row w b j cs t h

/-- Where a slice's row lies: as before, or new. -/
def At (n : Nat) (g g' : Option Nat) : Prop := g' = g ∨ ∃ k, g' = some k ∧ n ≤ k
theorem At.low {n m : Nat} {g g' : Option Nat} (h : At n g g') (hm : m ≤ n) : At m g g' := by
  rcases h with h | ⟨k, h, hk⟩
  · exact .inl h
  · exact .inr ⟨k, h, by omega⟩
theorem At.refl (n : Nat) (g : Option Nat) : At n g g := .inl rfl
theorem At.trans {n m : Nat} {g g1 g2 : Option Nat} (h : At n g g1) (k : At m g1 g2) (hm : n ≤ m) : At n g g2 := by
  rcases k with rfl | ⟨k, rfl, hk⟩
  · exact h
  · exact .inr ⟨k, rfl, by omega⟩
theorem At.ge {n lo : Nat} {g g' : Option Nat} (h : At n g g') (hn : lo ≤ n) (hg : ∀ k, g = some k → lo ≤ k) : ∀ k, g' = some k → lo ≤ k := by
  intro k hk
  rcases h with rfl | ⟨j, rfl, hj⟩
  · exact hg k hk
  · have := Option.some.inj hk
    omega
theorem At.off {n : Nat} {g g' : Option Nat} (h : At n g g') {x : Nat} (hx : x < n) (hg : g ≠ some x) : g' ≠ some x := by
  rcases h with rfl | ⟨k, rfl, hk⟩
  · exact hg
  · intro e
    have := Option.some.inj e
    omega

/-- What a slice's address gives, none of it in the blocks S. -/
def RdS (S : List Nat) (w : World) (A : Option Addr) (vs : List Value) : Prop :=
  ∀ j v, vs[j]? = some v → ∃ a, A = some a ∧ a.block ∉ S ∧ w.cell? (a.add j) = some v
theorem RdS.rd {S : List Nat} {w : World} {A : Option Addr} {vs : List Value} (h : RdS S w A vs) : Rd w A vs := fun j v hv => by
  obtain ⟨a, h1, _, h2⟩ := h j v hv
  exact ⟨a, h1, h2⟩
theorem RdS.kp {S T : List Nat} {w w1 : World} {A : Option Addr} {vs : List Value} (h : RdS S w A vs) (k : Kp T w w1) (hT : ∀ x ∈ T, x ∈ S ∨ w.heap.size ≤ x) : RdS S w1 A vs := by
  intro j v hv
  obtain ⟨a, rfl, h1, h2⟩ := h j v hv
  have hl := World.block_lt_of_cell? w _ h2
  rw [add_block] at hl
  exact ⟨a, rfl, h1, k.cell h2 (by rw [add_block]; intro hm; rcases hT _ hm with h | h; exact h1 h; omega)⟩
theorem RdS.new {S : List Nat} {w w1 : World} {A : Option Addr} {vs : List Value} (h : Rd w A vs) (k : Kp [] w w1) (hS : ∀ x ∈ S, w.heap.size ≤ x) : RdS S w1 A vs := by
  intro j v hv
  obtain ⟨a, rfl, h2⟩ := h j v hv
  have hl := World.block_lt_of_cell? w _ h2
  rw [add_block] at hl
  exact ⟨a, rfl, fun hm => by have := hS _ hm; omega, k.cell h2 (by simp)⟩
theorem RdS.app {S : List Nat} {w : World} {A : Option Addr} {vs us : List Value} (h : RdS S w A (vs ++ us)) : RdS S w A vs := by
  intro j v hv
  exact h j v (by rw [List.getElem?_append_left (List.getElem?_eq_some_iff.1 hv).1]; exact hv)
theorem RdS.int {S : List Nat} {w : World} {A : Option Addr} {k : IntKind} {xs : List Int} (h : RdS S w A (iv k xs)) (i : Nat) (hi : i < xs.length) :
    ∃ a, A = some a ∧ w.cell? (a.add i) = some (.int k xs[i]) := h.rd.int i hi
theorem RdS.lit {S : List Nat} (w : World) (us : List Value) (t : TypeId) (hS : ∀ x ∈ S, x < w.heap.size) : RdS S (w.alloc (.cells us.toArray t)) (some ⟨w.heap.size, 0, none⟩) us := by
  intro j v hv
  refine ⟨_, rfl, fun hm => by have := hS _ hm; simp at this, ?_⟩
  rw [Addr.add_lit, World.cell?_alloc_new]
  simpa using hv

/-- A slice of rows of bytes, none of it in the blocks S. -/
def Rs (S : List Nat) (w : World) (A : Option Addr) (l : List (List Int)) : Prop :=
  ∀ j (h : j < l.length), ∃ a Aj cj, A = some a ∧ a.block ∉ S ∧ w.cell? (a.add j) = some (.slice Aj l[j].length cj) ∧ l[j].length ≤ cj ∧ (Aj = none → cj = 0) ∧ RdS S w Aj (iv .u8 l[j])
theorem Rs.kp {S T : List Nat} {w w1 : World} {A : Option Addr} {l : List (List Int)} (h : Rs S w A l) (k : Kp T w w1) (hT : ∀ x ∈ T, x ∈ S ∨ w.heap.size ≤ x) : Rs S w1 A l := by
  intro j hj
  obtain ⟨a, Aj, cj, rfl, h0, hc, h1, h2, h3⟩ := h j hj
  have hl := World.block_lt_of_cell? w _ hc
  rw [add_block] at hl
  exact ⟨a, Aj, cj, rfl, h0, k.cell hc (by rw [add_block]; intro hm; rcases hT _ hm with h | h; exact h0 h; omega), h1, h2, h3.kp k hT⟩
theorem Rs.new {S S' : List Nat} {w w1 : World} {A : Option Addr} {l : List (List Int)} (h : Rs S' w A l) (k : Kp [] w w1) (hS : ∀ x ∈ S, w.heap.size ≤ x) : Rs S w1 A l := by
  intro j hj
  obtain ⟨a, Aj, cj, rfl, h0, hc, h1, h2, h3⟩ := h j hj
  have hl := World.block_lt_of_cell? w _ hc
  rw [add_block] at hl
  exact ⟨a, Aj, cj, rfl, fun hm => by have := hS _ hm; omega, k.cell hc (by simp), h1, h2, RdS.new h3.rd k hS⟩

/-- a marked row, newly laid -/
theorem rds_mark {S : List Nat} (w : World) (us : List Value) (t : TypeId) (f : Nat × Nat) (hS : ∀ x ∈ S, x < w.heap.size) : RdS S (w.alloc (.cells us.toArray t f)) (some ⟨w.heap.size, 0, none⟩) us := by
  intro j v hv
  refine ⟨_, rfl, fun hm => by have := hS _ hm; simp at this, ?_⟩
  rw [Addr.add_lit]
  simp only [World.cell?, Nat.zero_add]
  rw [heap_alloc_new]
  simpa using hv
/-- one row, two rows, newly laid -/
theorem rs_one {S : List Nat} (w : World) (xs : List Int) (n : Nat) (hn : xs.length = n) (t u : TypeId) (f : Nat × Nat) (hS : ∀ x ∈ S, x < w.heap.size) :
    Rs S ((w.alloc (.cells (iv .u8 xs).toArray t f)).alloc (.cells #[.slice (some ⟨w.heap.size, 0, none⟩) n n] u)) (some ⟨w.heap.size + 1, 0, none⟩) [xs] := by
  subst hn
  intro j hj
  obtain rfl : j = 0 := by simpa using hj
  have k := (Kp.refl [] (w.alloc (.cells (iv .u8 xs).toArray t f))).alloc (.cells #[.slice (some ⟨w.heap.size, 0, none⟩) xs.length xs.length] u)
  refine ⟨_, _, _, rfl, fun hm => by have := hS _ hm; simp at this; omega, ?_, Nat.le_refl _, by simp, (rds_mark w (iv .u8 xs) t f hS).kp k (by simp)⟩
  rw [add_zero']
  simp
/-- a list of one row that is there -/
theorem rs_cell {S : List Nat} (w : World) (A : Option Addr) (xs : List Int) (n c : Nat) (hn : xs.length = n) (hc : n ≤ c) (hnil : A = none → c = 0) (u : TypeId) (hr : RdS S w A (iv .u8 xs)) (hS : ∀ x ∈ S, x < w.heap.size) :
    Rs S (w.alloc (.cells #[.slice A n c] u)) (some ⟨w.heap.size, 0, none⟩) [xs] := by
  subst hn
  intro j hj
  obtain rfl : j = 0 := by simpa using hj
  refine ⟨_, A, c, rfl, fun hm => by have := hS _ hm; simp at this, ?_, hc, hnil, hr.kp ((Kp.refl [] w).alloc _) (by simp)⟩
  rw [add_zero']
  simp
theorem rs_two {S : List Nat} (w : World) (xs ys : List Int) (n m : Nat) (hn : xs.length = n) (hm : ys.length = m) (t u : TypeId) (f f' : Nat × Nat) (hS : ∀ x ∈ S, x < w.heap.size) :
    Rs S (((w.alloc (.cells (iv .u8 xs).toArray t f)).alloc (.cells (iv .u8 ys).toArray t f')).alloc (.cells #[.slice (some ⟨w.heap.size, 0, none⟩) n n, .slice (some ⟨w.heap.size + 1, 0, none⟩) m m] u)) (some ⟨w.heap.size + 1 + 1, 0, none⟩) [xs, ys] := by
  subst hn hm
  intro j hj
  have hS1 : ∀ x ∈ S, x < (w.alloc (.cells (iv .u8 xs).toArray t f)).heap.size := fun x hx => by have := hS x hx; simp; omega
  have k1 := (Kp.refl [] (w.alloc (.cells (iv .u8 xs).toArray t f))).alloc (.cells (iv .u8 ys).toArray t f')
  have k2 := (Kp.refl [] ((w.alloc (.cells (iv .u8 xs).toArray t f)).alloc (.cells (iv .u8 ys).toArray t f'))).alloc (.cells #[.slice (some ⟨w.heap.size, 0, none⟩) xs.length xs.length, .slice (some ⟨w.heap.size + 1, 0, none⟩) ys.length ys.length] u)
  have hc := World.cell?_alloc_new ((w.alloc (.cells (iv .u8 xs).toArray t f)).alloc (.cells (iv .u8 ys).toArray t f')) #[.slice (some ⟨w.heap.size, 0, none⟩) xs.length xs.length, .slice (some ⟨w.heap.size + 1, 0, none⟩) ys.length ys.length] u j
  have hz : ((w.alloc (.cells (iv .u8 xs).toArray t f)).alloc (.cells (iv .u8 ys).toArray t f')).heap.size = w.heap.size + 1 + 1 := by simp
  rw [hz] at hc
  match j, hj, hc with
  | 0, hj, hc => exact ⟨_, _, _, rfl, fun hm => by have := hS _ hm; simp at this; omega, by rw [add_zero']; exact hc, Nat.le_refl _, by simp, ((rds_mark w (iv .u8 xs) t f hS).kp k1 (by simp)).kp k2 (by simp)⟩
  | 1, hj, hc => exact ⟨_, _, _, rfl, fun hm => by have := hS _ hm; simp at this; omega, by rw [Addr.add_lit]; exact hc, Nat.le_refl _, by simp, by
      have := (rds_mark (w.alloc (.cells (iv .u8 xs).toArray t f)) (iv .u8 ys) t f' hS1).kp k2 (by simp)
      simpa using this⟩

/-- A row of numbers of the call's own, whose block is none of those below lo. -/
def Own (e : TypeId) (k : IntKind) (w : World) (lo : Nat) (v : Value) (xs : List Int) : Prop := w.ownsRow 0 e 1 v xs.length (iv k xs) ∧ ∀ g, v.ownBlock = some g → lo ≤ g
/-- Such a row is handed back; nothing that was there has turned. -/
def RetOwn (e : TypeId) (k : IntKind) (w : World) (xs : List Int) (en : Ending) (w' : World) : Prop := ∃ v, en = .returned v ∧ Own e k w' w.heap.size v xs ∧ Kp [] w w'
theorem Own.nil (e : TypeId) (k : IntKind) (w : World) (lo : Nat) : Own e k w lo (.slice none 0 0) [] := ⟨World.ownsRow_nil w 0 e 1, by intro g hg; simp [Value.ownBlock] at hg⟩
theorem Own.lower {e : TypeId} {k : IntKind} {w : World} {lo lo' : Nat} {v : Value} {xs : List Int} (h : Own e k w lo v xs) (hl : lo' ≤ lo) : Own e k w lo' v xs := ⟨h.1, fun g hg => Nat.le_trans hl (h.2 g hg)⟩
theorem Own.kp {e : TypeId} {k : IntKind} {w w1 : World} {lo : Nat} {v : Value} {xs : List Int} {S : List Nat} (h : Own e k w lo v xs) (hk : Kp S w w1) (hS : ∀ g, v.ownBlock = some g → g ∉ S) : Own e k w1 lo v xs := ⟨hk.own h.1 hS, h.2⟩
/-- An append onto an empty row newly laid. -/
theorem kp_of_new {w w1 : World} {o : Obj} (k : Kp (Value.slice (some ⟨w.heap.size, 0, none⟩) 0 0).ownBlock.toList (w.alloc o) w1) : Kp [] w w1 :=
  ((Kp.refl [] w).alloc o).trans k (by simp [Value.ownBlock])
theorem own_of_app {e : TypeId} {k : IntKind} {w1 : World} {v v1 : Value} {m n lo : Nat} {ys : List Int} (hm : ys.length = m) (o : w1.ownsRow 0 e 1 v1 (0 + m) ([] ++ iv k ys)) (a : At n v.ownBlock v1.ownBlock) (hn : lo ≤ n)
    (hv : ∀ g, v.ownBlock = some g → lo ≤ g) : Own e k w1 lo v1 ys := ⟨by rw [hm]; simpa using o, a.ge hn hv⟩
theorem one_cell {e : TypeId} {k : IntKind} {w : World} {lo g n cap : Nat} {c : Int} (h : Own e k w lo (.slice (some ⟨g, 0, none⟩) n cap) [c]) : w.cell? ⟨g, 0, none⟩ = some (.int k c) := by
  obtain ⟨A, c', hv, _, _, hr, _⟩ := own_rd h.1
  cases hv
  obtain ⟨a, ha, hc⟩ := hr 0 _ rfl
  cases ha
  rwa [add_zero'] at hc
theorem rd_nil_of_none {w : World} {vs : List Value} (h : Rd w none vs) : vs = [] := by
  cases vs with
  | nil => rfl
  | cons x r => obtain ⟨a, ha, _⟩ := h 0 x rfl; cases ha
theorem iv_nil {k : IntKind} {xs : List Int} (h : iv k xs = []) : xs = [] := by simpa [iv] using h

theorem Own.rds {e : TypeId} {w : World} {lo : Nat} {A : Option Addr} {n c : Nat} {xs : List Int} {S : List Nat} (h : Own e .u8 w lo (.slice A n c) xs) (hS : ∀ x ∈ S, x < lo) : RdS S w A (iv .u8 xs) := by
  obtain ⟨A', c', hv, _, _, hr, _⟩ := own_rd h.1
  cases hv
  intro j v hv
  obtain ⟨a, rfl, hc⟩ := hr j v hv
  exact ⟨a, rfl, fun hm => by have := hS _ hm; have := h.2 a.block rfl; omega, hc⟩
theorem Own.len {e : TypeId} {k : IntKind} {w : World} {lo : Nat} {A : Option Addr} {n c : Nat} {xs : List Int} (h : Own e k w lo (.slice A n c) xs) : xs.length = n := by
  rcases h.1.2 with ⟨h1, h2⟩ | ⟨g, cap, cur, h1, _⟩
  · cases h1; exact h2
  · cases h1; rfl
/-- bytes -/
def Wf (xs : List Int) : Prop := ∀ x ∈ xs, 0 ≤ x ∧ x < 256
theorem Wf.drop {xs : List Int} (h : Wf xs) (n : Nat) : Wf (xs.drop n) := fun x hx => h x (List.mem_of_mem_drop hx)
theorem Wf.take {xs : List Int} (h : Wf xs) (n : Nat) : Wf (xs.take n) := fun x hx => h x (List.mem_of_mem_take hx)
theorem Wf.nil : Wf [] := fun x hx => by simp at hx

end Go.Proofs.YtdiljpdohmeceaaGreat.H

/- The check sum: the plain mathematics. -/
namespace Go.Proofs.YtdiljpdohmeceaaGreat.O
open Go.RowKit

/-- One digit of the check sum. -/
def st (v : BitVec 32) : BitVec 32 := if v.getLsbD 0 then (v >>> 1) ^^^ 3988292384#32 else v >>> 1
def sts : Nat → BitVec 32 → BitVec 32
  | 0, v => v
  | n + 1, v => st (sts n v)
def crcB (v : BitVec 32) (c : Int) : BitVec 32 := sts 8 (v ^^^ BitVec.ofInt 32 c)
def crcF (v : BitVec 32) (xs : List Int) : BitVec 32 := xs.foldl crcB v
def crc (xs : List Int) : Int := ((~~~ (crcF 4294967295#32 xs)).toNat : Int)

theorem wrap_bv (v : BitVec 32) : IntKind.u32.wrap (v.toNat : Int) = (v.toNat : Int) := by
  rw [IntKind.wrap_u32]
  have := v.isLt
  omega
theorem of_bv (v : BitVec 32) : BitVec.ofInt 32 (v.toNat : Int) = v := by rw [BitVec.ofInt_natCast]; simp
theorem xor_bv (a b : BitVec 32) : bits .xor .u32 (a.toNat : Int) (b.toNat : Int) = ((a ^^^ b).toNat : Int) := by
  show IntKind.u32.wrap _ = _
  rw [← wrap_bv (a ^^^ b)]
  congr 2
  exact congrArg BitVec.toNat (by show BitVec.ofInt 32 _ ^^^ BitVec.ofInt 32 _ = _; rw [of_bv, of_bv])
theorem and_bv (a b : BitVec 32) : bits .and .u32 (a.toNat : Int) (b.toNat : Int) = ((a &&& b).toNat : Int) := by
  show IntKind.u32.wrap _ = _
  rw [← wrap_bv (a &&& b)]
  congr 2
  exact congrArg BitVec.toNat (by show BitVec.ofInt 32 _ &&& BitVec.ofInt 32 _ = _; rw [of_bv, of_bv])
theorem byte_bv (c : Int) (h0 : 0 ≤ c) (h1 : c < 256) : ((BitVec.ofInt 32 c).toNat : Int) = c := by
  rw [BitVec.toNat_ofInt]
  omega
theorem and_one (v : BitVec 32) : (v &&& 1#32).toNat = if v.getLsbD 0 then 1 else 0 := by
  rw [BitVec.toNat_and]
  show v.toNat &&& 1 = _
  rw [Nat.and_one_is_mod]
  simp only [BitVec.getLsbD, Nat.testBit_zero]
  by_cases h : v.toNat % 2 = 1 <;> simp [h] <;> omega
theorem half_bv (v : BitVec 32) : ((v >>> 1).toNat : Int) = (v.toNat : Int) / 2 := by
  rw [BitVec.toNat_ushiftRight, Nat.shiftRight_eq_div_pow]
  omega

theorem not_bv (u : BitVec 32) : bits .xor .u32 IntKind.u32.max (u.toNat : Int) = ((~~~ u).toNat : Int) := by
  have h := xor_bv 4294967295#32 u
  have e : 4294967295#32 ^^^ u = ~~~ u := BitVec.allOnes_xor
  rw [e] at h
  exact h

theorem st_walk (r : BitVec 32) : bits .xor .u32 ((r.toNat : Int) / 2) (bits .and .u32 3988292384 (-bits .and .u32 (r.toNat : Int) 1 % 4294967296)) = ((st r).toNat : Int) := by
  have h1 : bits .and .u32 (r.toNat : Int) 1 = (((r &&& 1#32).toNat : Nat) : Int) := and_bv r 1#32
  rw [h1, and_one, ← half_bv]
  unfold st
  by_cases h : r.getLsbD 0
  · rw [if_pos h, if_pos h]
    have e : bits .and .u32 3988292384 (-((1 : Nat) : Int) % 4294967296) = ((3988292384#32).toNat : Int) := by decide +kernel
    rw [e, xor_bv]
  · rw [if_neg h, if_neg h]
    have e : bits .and .u32 3988292384 (-((0 : Nat) : Int) % 4294967296) = ((0#32).toNat : Int) := by decide +kernel
    rw [e, xor_bv, BitVec.xor_zero]
/-- the document's step -/
theorem st_ref_one (r : BitVec 32) (h : r.getLsbD 0 = true) : bits .and .u32 (r.toNat : Int) 1 = 1 ∧ bits .xor .u32 ((r.toNat : Int) / 2) 3988292384 = ((st r).toNat : Int) := by
  have h1 : bits .and .u32 (r.toNat : Int) 1 = (((r &&& 1#32).toNat : Nat) : Int) := and_bv r 1#32
  refine ⟨by rw [h1, and_one, if_pos h]; rfl, ?_⟩
  have h2 := xor_bv (r >>> 1) 3988292384#32
  rw [half_bv] at h2
  rw [st, if_pos h]
  exact h2
theorem st_ref_zero (r : BitVec 32) (h : ¬ r.getLsbD 0 = true) : bits .and .u32 (r.toNat : Int) 1 = 0 ∧ (r.toNat : Int) / 2 = ((st r).toNat : Int) := by
  have h1 : bits .and .u32 (r.toNat : Int) 1 = (((r &&& 1#32).toNat : Nat) : Int) := and_bv r 1#32
  refine ⟨by rw [h1, and_one, if_neg h]; rfl, ?_⟩
  rw [st, if_neg h, half_bv]

end Go.Proofs.YtdiljpdohmeceaaGreat.O

/- The check sum tells one byte from another. -/
namespace Go.Proofs.YtdiljpdohmeceaaGreat.O
open Go.RowKit H

theorem shift_top (v : BitVec 32) : (v >>> 1).getLsbD 31 = false := by
  rw [BitVec.getLsbD_ushiftRight]
  exact BitVec.getLsbD_of_ge v 32 (Nat.le_refl _)
theorem st_top (v : BitVec 32) : (st v).getLsbD 31 = v.getLsbD 0 := by
  unfold st
  by_cases h : v.getLsbD 0 = true
  · rw [if_pos h, BitVec.getLsbD_xor, shift_top, h]
    decide
  · rw [if_neg h, shift_top]
    simpa using h
theorem st_inj {a b : BitVec 32} (h : st a = st b) : a = b := by
  have h0 : a.getLsbD 0 = b.getLsbD 0 := by rw [← st_top, ← st_top, h]
  have h1 : a >>> 1 = b >>> 1 := by
    unfold st at h
    rw [← h0] at h
    by_cases ha : a.getLsbD 0 = true
    · rw [if_pos ha, if_pos ha] at h
      exact (BitVec.xor_left_inj _).1 h
    · rw [if_neg ha, if_neg ha] at h
      exact h
  apply BitVec.eq_of_getLsbD_eq
  intro i hi
  cases i with
  | zero => exact h0
  | succ i =>
    have := congrArg (fun v => BitVec.getLsbD v i) h1
    simp only [BitVec.getLsbD_ushiftRight] at this
    rwa [Nat.add_comm] at this
theorem sts_inj : ∀ (n : Nat) {a b : BitVec 32}, sts n a = sts n b → a = b
  | 0, _, _, h => h
  | n + 1, _, _, h => sts_inj n (st_inj h)
theorem crcB_inj {a b : BitVec 32} {c : Int} (h : crcB a c = crcB b c) : a = b := by
  have := sts_inj 8 h
  rw [BitVec.xor_comm a, BitVec.xor_comm b] at this
  exact (BitVec.xor_right_inj _).1 this
theorem crcB_byte {v : BitVec 32} {c d : Int} (hc : 0 ≤ c ∧ c < 256) (hd : 0 ≤ d ∧ d < 256) (h : crcB v c = crcB v d) : c = d := by
  have h1 := (BitVec.xor_right_inj _).1 (sts_inj 8 h)
  rw [← byte_bv c hc.1 hc.2, ← byte_bv d hd.1 hd.2, h1]
theorem crcF_inj : ∀ (xs : List Int) {a b : BitVec 32}, crcF a xs = crcF b xs → a = b
  | [], _, _, h => h
  | _ :: xs, _, _, h => crcB_inj (crcF_inj xs h)
theorem crcF_app (v : BitVec 32) (xs ys : List Int) : crcF v (xs ++ ys) = crcF (crcF v xs) ys := by simp [crcF]
theorem crc_eq {xs ys : List Int} (h : crc xs = crc ys) : crcF 4294967295#32 xs = crcF 4294967295#32 ys := by
  unfold crc at h
  have h1 := BitVec.eq_of_toNat_eq (Int.ofNat.inj h)
  have h2 := congrArg (fun v => ~~~ v) h1
  simpa using h2
theorem crc_set {xs : List Int} {k : Nat} {z : Int} (hk : k < xs.length) (hx : 0 ≤ xs[k] ∧ xs[k] < 256) (hz : 0 ≤ z ∧ z < 256) (hne : z ≠ xs[k]) : crc (xs.set k z) ≠ crc xs := by
  intro h
  have h1 := crc_eq h
  have e1 : xs.set k z = xs.take k ++ z :: xs.drop (k + 1) := List.set_eq_take_append_cons_drop ▸ (by rw [if_pos hk])
  have e2 : xs = xs.take k ++ xs[k] :: xs.drop (k + 1) := by rw [List.getElem_cons_drop, List.take_append_drop]
  have e3 : crcF 4294967295#32 xs = crcF 4294967295#32 (xs.take k ++ xs[k] :: xs.drop (k + 1)) := congrArg _ e2
  rw [e1, e3, crcF_app, crcF_app] at h1
  exact hne (crcB_byte hz hx (crcF_inj (xs.drop (k + 1)) h1))
theorem xor_u8 (y b : Int) (hy : 0 ≤ y ∧ y < 256) (hb : 0 ≤ b ∧ b < 256) (h0 : b ≠ 0) : (0 ≤ bits .xor .u8 y b ∧ bits .xor .u8 y b < 256) ∧ bits .xor .u8 y b ≠ y := by
  have e : bits .xor .u8 y b = ((BitVec.ofInt 8 y ^^^ BitVec.ofInt 8 b).toNat : Int) := by
    show IntKind.u8.wrap (((BitVec.ofInt 8 y ^^^ BitVec.ofInt 8 b).toNat : Nat) : Int) = _
    have := (BitVec.ofInt 8 y ^^^ BitVec.ofInt 8 b).isLt
    rw [IntKind.wrap_u8]
    omega
  have hlt := (BitVec.ofInt 8 y ^^^ BitVec.ofInt 8 b).isLt
  rw [e]
  refine ⟨⟨by omega, by omega⟩, fun h => h0 ?_⟩
  have hyv : ((BitVec.ofInt 8 y).toNat : Int) = y := by rw [BitVec.toNat_ofInt]; omega
  have hbv : ((BitVec.ofInt 8 b).toNat : Int) = b := by rw [BitVec.toNat_ofInt]; omega
  have h1 : BitVec.ofInt 8 y ^^^ BitVec.ofInt 8 b = BitVec.ofInt 8 y ^^^ 0#8 := by
    rw [BitVec.xor_zero]
    apply BitVec.eq_of_toNat_eq
    omega
  have h2 := (BitVec.xor_right_inj _).1 h1
  rw [← hbv, h2]
  rfl

end Go.Proofs.YtdiljpdohmeceaaGreat.O

/- Records: plain words. -/
namespace Go.Proofs.YtdiljpdohmeceaaGreat.O
open Go.RowKit H

/-- a number in four bytes -/
def four (n : Int) : List Int := [n % 256, n / 256 % 256, n / 65536 % 256, n / 16777216 % 256]
def unf (l : List Int) : Int := l.getD 0 0 + l.getD 1 0 * 256 + l.getD 2 0 * 65536 + l.getD 3 0 * 16777216
theorem four_len (n : Int) : (four n).length = 4 := rfl
theorem four_wf (n : Int) : Wf (four n) := by
  intro x hx
  simp only [four, List.mem_cons, List.not_mem_nil, or_false] at hx
  omega
theorem unf_four {n : Int} (h0 : 0 ≤ n) (h1 : n < 4294967296) : unf (four n) = n := by
  simp only [four, unf, List.getD_cons_zero, List.getD_cons_succ]
  omega
theorem four_unf {l : List Int} (hl : l.length = 4) (hw : Wf l) : four (unf l) = l := by
  match l, hl with
  | [a, b, c, d], _ =>
    have ha := hw a (by simp)
    have hb := hw b (by simp)
    have hc := hw c (by simp)
    have hd := hw d (by simp)
    simp only [four, unf, List.getD_cons_zero, List.getD_cons_succ, List.cons.injEq, and_true]
    omega
theorem unf_le {l : List Int} (hw : Wf l) : 0 ≤ unf l ∧ unf l < 4294967296 := by
  have h : ∀ i, 0 ≤ l.getD i 0 ∧ l.getD i 0 < 256 := by
    intro i
    rw [List.getD_eq_getElem?_getD]
    by_cases hi : i < l.length
    · rw [List.getElem?_eq_getElem hi]; exact hw _ (List.getElem_mem hi)
    · rw [List.getElem?_eq_none (by omega)]; simp
  have h0 := h 0
  have h1 := h 1
  have h2 := h 2
  have h3 := h 3
  unfold unf
  omega
theorem crc_le (l : List Int) : 0 ≤ crc l ∧ crc l < 4294967296 := by
  unfold crc
  have := (~~~ (crcF 4294967295#32 l)).isLt
  omega
theorem unf_take {l : List Int} {k : Nat} (h : 4 ≤ k) : unf (l.take k) = unf l := by
  have : ∀ i, i < 4 → (l.take k).getD i 0 = l.getD i 0 := by
    intro i hi
    rw [List.getD_eq_getElem?_getD, List.getD_eq_getElem?_getD, List.getElem?_take_of_lt (by omega)]
  unfold unf
  rw [this 0 (by omega), this 1 (by omega), this 2 (by omega), this 3 (by omega)]
theorem unf_app {l r : List Int} (h : 4 ≤ l.length) : unf (l ++ r) = unf l := by
  rw [← unf_take (l := l ++ r) (k := l.length) h, List.take_left']
  rfl

/-- the head of a record -/
def head (n : Int) : List Int := four n ++ four (crc (four n))
theorem head_len (n : Int) : (head n).length = 8 := rfl
theorem head_wf (n : Int) : Wf (head n) := by
  intro x hx
  rcases List.mem_append.1 hx with h | h
  · exact four_wf _ x h
  · exact four_wf _ x h
theorem wf_app {a b : List Int} (h1 : Wf a) (h2 : Wf b) : Wf (a ++ b) := fun x hx => by
  rcases List.mem_append.1 hx with h | h
  · exact h1 x h
  · exact h2 x h
/-- a record -/
def fEnc (p : List Int) : List Int := (head p.length ++ p) ++ four (crc (head p.length ++ p))
theorem fEnc_len (p : List Int) : (fEnc p).length = p.length + 12 := by
  simp only [fEnc, List.length_append, head_len, four_len]
  omega
theorem fEnc_wf {p : List Int} (h : Wf p) : Wf (fEnc p) := wf_app (wf_app (head_wf _) h) (four_wf _)
/-- what bytes begin with -/
def fDec (b : List Int) : List Int × Nat × Int :=
  if b.length < 8 then ([], 0, 2)
  else if b.take 8 ≠ head (unf b) then ([], 0, 4)
  else if 1048576 < unf b then ([], 0, 5)
  else if b.length < 12 + (unf b).toNat then ([], 0, 2)
  else if unf (b.drop (8 + (unf b).toNat)) ≠ crc (b.take (8 + (unf b).toNat)) then ([], 0, 4)
  else ((b.take (8 + (unf b).toNat)).drop 8, 12 + (unf b).toNat, 0)

theorem unf_head {n : Int} (h0 : 0 ≤ n) (h1 : n < 4294967296) (r : List Int) : unf (head n ++ r) = n := by
  rw [unf_app (by rw [head_len]; omega), head, unf_app (by rw [four_len]; omega), unf_four h0 h1]
/-- A record, read. -/
theorem fDec_enc {p : List Int} (r : List Int) (hp : p.length ≤ 1048576) : fDec (fEnc p ++ r) = (p, p.length + 12, 0) := by
  have hu : unf (fEnc p ++ r) = p.length := by
    rw [fEnc, List.append_assoc, List.append_assoc]
    exact unf_head (by omega) (by omega) _
  have hl : (fEnc p ++ r).length = p.length + 12 + r.length := by rw [List.length_append, fEnc_len]
  have h8 : (fEnc p ++ r).take 8 = head p.length := by
    rw [fEnc, List.append_assoc, List.append_assoc, List.take_left' (head_len _)]
  have ht : (fEnc p ++ r).take (8 + p.length) = head p.length ++ p := by
    rw [fEnc, List.append_assoc, List.take_left' (by rw [List.length_append, head_len])]
  have hd : (fEnc p ++ r).drop (8 + p.length) = four (crc (head p.length ++ p)) ++ r := by
    rw [fEnc, List.append_assoc, List.drop_left' (by rw [List.length_append, head_len])]
  unfold fDec
  rw [hu, hl, h8, Int.toNat_natCast, if_neg (by omega), if_neg (by simp), if_neg (by omega), if_neg (by omega), ht, hd, unf_app (by rw [four_len]; omega),
    unf_four (crc_le _).1 (crc_le _).2, if_neg (by simp), List.drop_left' (head_len _), Nat.add_comm 12]
theorem byte_map_inj : ∀ {xs ys : List Int}, Wf xs → Wf ys → (xs.map fun n => UInt8.ofNat n.toNat) = (ys.map fun n => UInt8.ofNat n.toNat) → xs = ys
  | [], [], _, _, _ => rfl
  | [], _ :: _, _, _, h => by simp at h
  | _ :: _, [], _, _, h => by simp at h
  | x :: xs, y :: ys, h0, h1, h => by
    simp only [List.map_cons, List.cons.injEq] at h
    have hx := h0 x (by simp)
    have hy := h1 y (by simp)
    have h2 := congrArg UInt8.toNat h.1
    simp only [UInt8.toNat_ofNat'] at h2
    have e : x = y := by omega
    rw [e, byte_map_inj (fun z hz => h0 z (by simp [hz])) (fun z hz => h1 z (by simp [hz])) h.2]
theorem bits_or_u32_nat (a b : Nat) (ha : a < 4294967296) (hb : b < 4294967296) : bits .or .u32 (a : Int) (b : Int) = ((a ||| b : Nat) : Int) := by
  have hx : a ||| b < 2 ^ 32 := Nat.or_lt_two_pow (by omega) (by omega)
  have h1 : (BitVec.ofInt 32 (a : Int)).toNat = a := by
    rw [BitVec.ofInt_natCast, BitVec.toNat_ofNat]; exact Nat.mod_eq_of_lt (by omega)
  have h2 : (BitVec.ofInt 32 (b : Int)).toNat = b := by
    rw [BitVec.ofInt_natCast, BitVec.toNat_ofNat]; exact Nat.mod_eq_of_lt (by omega)
  show IntKind.u32.wrap ((BitVec.ofInt 32 (a : Int) ||| BitVec.ofInt 32 (b : Int)).toNat : Int) = _
  rw [BitVec.toNat_or, h1, h2, IntKind.wrap_u32]
  omega
theorem or_sum (x y : Int) (i : Nat) (p : Nat) (hp : p = 2 ^ i) (hx : 0 ≤ x ∧ x < p) (hy : 0 ≤ y) (hb : y * p + x < 4294967296) : bits .or .u32 x (y * p) = y * p + x := by
  obtain ⟨x, rfl⟩ := Int.eq_ofNat_of_zero_le hx.1
  obtain ⟨y, rfl⟩ := Int.eq_ofNat_of_zero_le hy
  have h := Nat.two_pow_add_eq_or_of_lt (i := i) (b := x) (by omega) y
  rw [← hp, Nat.mul_comm p y] at h
  have hb' : y * p + x < 4294967296 := by
    refine Int.ofNat_lt.1 ?_
    rw [Int.natCast_add, Int.natCast_mul]
    exact hb
  have e : ((y : Int) * (p : Int)) = ((y * p : Nat) : Int) := (Int.natCast_mul y p).symm
  rw [e, bits_or_u32_nat x (y * p) (by omega) (by omega), Nat.or_comm, ← h, Int.natCast_add]
theorem from_val (x0 x1 x2 x3 : Int) (h0 : 0 ≤ x0 ∧ x0 < 256) (h1 : 0 ≤ x1 ∧ x1 < 256) (h2 : 0 ≤ x2 ∧ x2 < 256) (h3 : 0 ≤ x3 ∧ x3 < 256) :
    bits BinOp.or IntKind.u32 (bits BinOp.or IntKind.u32 (bits BinOp.or IntKind.u32 (IntKind.u32.wrap x0) (IntKind.u32.wrap (IntKind.u32.wrap x1 * 256))) (IntKind.u32.wrap (IntKind.u32.wrap x2 * 65536))) (IntKind.u32.wrap (IntKind.u32.wrap x3 * 16777216))
      = x0 + x1 * 256 + x2 * 65536 + x3 * 16777216 := by
  have e0 : IntKind.u32.wrap x0 = x0 := by rw [IntKind.wrap_u32]; omega
  have e1 : IntKind.u32.wrap x1 = x1 := by rw [IntKind.wrap_u32]; omega
  have e2 : IntKind.u32.wrap x2 = x2 := by rw [IntKind.wrap_u32]; omega
  have e3 : IntKind.u32.wrap x3 = x3 := by rw [IntKind.wrap_u32]; omega
  have f1 : IntKind.u32.wrap (x1 * 256) = x1 * 256 := by rw [IntKind.wrap_u32]; omega
  have f2 : IntKind.u32.wrap (x2 * 65536) = x2 * 65536 := by rw [IntKind.wrap_u32]; omega
  have f3 : IntKind.u32.wrap (x3 * 16777216) = x3 * 16777216 := by rw [IntKind.wrap_u32]; omega
  rw [e0, e1, e2, e3, f1, f2, f3]
  have g1 := or_sum x0 x1 8 256 rfl (by omega) h1.1 (by omega)
  rw [show ((256 : Nat) : Int) = 256 from rfl] at g1
  have g2 := or_sum (x1 * 256 + x0) x2 16 65536 rfl (by omega) h2.1 (by omega)
  rw [show ((65536 : Nat) : Int) = 65536 from rfl] at g2
  have g3 := or_sum (x2 * 65536 + (x1 * 256 + x0)) x3 24 16777216 rfl (by omega) h3.1 (by omega)
  rw [show ((16777216 : Nat) : Int) = 16777216 from rfl] at g3
  rw [g1, g2, g3]
  omega
end Go.Proofs.YtdiljpdohmeceaaGreat.O

/- A number in four bytes, and back: haystack/frame.four, haystack/frame.fromFour. -/
namespace Go.Proofs.YtdiljpdohmeceaaGreat.frame
open Go.RowKit H O

theorem four_any (v : Int) (w : World) (h0 : 0 ≤ v) (h1 : v < 4294967296) : Calls Tryz.prog 135 #[.int .u32 v] w fun e w' => e = .returned (.slice (some ⟨w.heap.size, 0, none⟩) 4 4) ∧ w' = w.alloc (.cells (iv .u8 (four v)).toArray 5) := by
  go_enter Tryz.func135, Tryz.ntmps135
  go_wp2
  go_ret
  have e : v / 16777216 % 256 = v / 16777216 := by omega
  refine ⟨rfl, ?_⟩
  show _ = w.alloc (.cells #[.int .u8 (v % 256), .int .u8 (v / 256 % 256), .int .u8 (v / 65536 % 256), .int .u8 (v / 16777216 % 256)] 5)
  rw [e]
set_option maxHeartbeats 4000000 in
theorem from_any (A : Option Addr) (n c : Nat) (xs : List Int) (w : World) (hn : xs.length = n) (h0 : Rd w A (iv .u8 xs)) (hw : Wf xs) (h4 : 4 ≤ n) : Calls Tryz.prog 137 #[.slice A n c] w fun e w' => e = .returned (.int .u32 (unf xs)) ∧ ∃ k, w' = w.drewN k := by
  obtain ⟨a, rfl, d0⟩ := h0.int 0 (by omega)
  obtain ⟨_, e, d1⟩ := h0.int 1 (by omega)
  cases e
  obtain ⟨_, e, d2⟩ := h0.int 2 (by omega)
  cases e
  obtain ⟨_, e, d3⟩ := h0.int 3 (by omega)
  cases e
  obtain ⟨x0, h0'⟩ : ∃ x, xs[0] = x := ⟨_, rfl⟩
  obtain ⟨x1, h1'⟩ : ∃ x, xs[1] = x := ⟨_, rfl⟩
  obtain ⟨x2, h2'⟩ : ∃ x, xs[2] = x := ⟨_, rfl⟩
  obtain ⟨x3, h3'⟩ : ∃ x, xs[3] = x := ⟨_, rfl⟩
  rw [h0'] at d0
  rw [h1'] at d1
  rw [h2'] at d2
  rw [h3'] at d3
  have k0 : 0 < n := by omega
  have k1 : (1 : Int) < (n : Int) := by omega
  have k2 : (2 : Int) < (n : Int) := by omega
  have k3 : (3 : Int) < (n : Int) := by omega
  obtain ⟨b, o, s⟩ := a
  obtain rfl : s = none := by simpa [Addr.add] using World.cell?_spot d0
  rw [Go.WideShapes.add_plain] at d0 d1 d2 d3
  rw [Nat.add_zero] at d0
  have HV := As.mk (from_val x0 x1 x2 x3 (by rw [← h0']; exact hw _ (List.getElem_mem _)) (by rw [← h1']; exact hw _ (List.getElem_mem _)) (by rw [← h2']; exact hw _ (List.getElem_mem _)) (by rw [← h3']; exact hw _ (List.getElem_mem _)))
  have HU : As (unf xs = x0 + x1 * 256 + x2 * 65536 + x3 * 16777216) := ⟨by
    rw [← h0', ← h1', ← h2', ← h3', unf]
    simp only [List.getD_eq_getElem?_getD]
    rw [List.getElem?_eq_getElem (by omega), List.getElem?_eq_getElem (by omega), List.getElem?_eq_getElem (by omega), List.getElem?_eq_getElem (by omega)]
    rfl⟩
  clear h0 hn h0' h1' h2' h3' hw
  go_enter Tryz.func137, Tryz.ntmps137
  go_wp2
  go_region_held3 (fun w' => w'.cell? ⟨b, o, none⟩ = some (.int .u8 x0) ∧ w'.cell? ⟨b, o + 1, none⟩ = some (.int .u8 x1) ∧ w'.cell? ⟨b, o + 2, none⟩ = some (.int .u8 x2) ∧ w'.cell? ⟨b, o + 3, none⟩ = some (.int .u8 x3)) (exact ⟨d0, d1, d2, d3⟩) (fail)
  go_wp2
  go_ret
  rw [HU.out, ← HV.out]
  exact ⟨rfl, 1, rfl⟩
end Go.Proofs.YtdiljpdohmeceaaGreat.frame

/- append onto a row of the call's own, whatever is appended (nil, empty or not): the row's place afterwards is the old one or a new one. -/
namespace Go.Proofs.YtdiljpdohmeceaaGreat.H
open Go.RowKit

theorem run_app {P : Program} (w : World) (t ty e : TypeId) (z : Value) (size bytes : Nat) (ht : P.underlying t = some (.slice e))
    (hI : (P.info? e).map (fun i => (i.zero, i.size, i.bytes)) = some (some z, size, bytes)) (hzs : z.cells.size = size) (hsz : 0 < size)
    (v : Value) (n : Nat) (xs : List Value) (hown : w.ownsRow 0 e size v n xs)
    (A : Option Addr) (m c : Nat) (news : List Value) (hl : news.length = m * size) (hrd : Rd w A news) (hnil : A = none → c = 0) (h1 : ∀ u ∈ news, u.oneCell' = true)
    (hb : (n + m) * bytes ≤ 140737488355328) (hm : n + m ≤ 140737488355328) :
    ∃ v' w', (Builtin.append_ #[t, t] ty #[v, .slice A m c]).run P w = .ok v' w' ∧ w'.ownsRow 0 e size v' (n + m) (xs ++ news) ∧ Kp v.ownBlock.toList w w' ∧
      At w.heap.size v.ownBlock v'.ownBlock ∧ (v' = .slice none 0 0 → v = .slice none 0 0) := by
  obtain ⟨i, hi, hz, hs, hby⟩ := info_parts hI
  have h63 : n + m ≤ maxLen := by unfold maxLen; omega
  cases A with
  | none =>
    have hc := hnil rfl
    have hn0 : news = [] := by
      cases news with
      | nil => rfl
      | cons x r => obtain ⟨a, ha, _⟩ := hrd 0 x rfl; cases ha
    subst hn0
    have hm0 : m = 0 := by
      rcases Nat.eq_zero_or_pos m with h | h
      · exact h
      · have : 0 < m * size := Nat.mul_pos h hsz
        simp at hl
        omega
    subst hm0 hc
    exact ⟨v, w, run_append_owned_none w 0 t ty e i size ht hi v n xs hown, by simpa using hown, Kp.refl _ _, At.refl _ _, fun h => h⟩
  | some a =>
    have hnews : ∀ j u, news[j]? = some u → w.cell? (a.add j) = some u := by
      intro j u hu
      obtain ⟨a', ha, hc⟩ := hrd j u hu
      cases ha
      exact hc
    obtain ⟨v', w', hr, h2, h3, h4⟩ := run_append_own (P := P) w 0 t ty e i z size bytes ht hi hz hs hby hzs hsz v n xs hown a m c news hl hnews h1 h63 hb (Nat.zero_le _)
    refine ⟨v', w', hr, h2, (Kp.refl _ w).grown h3 (fun k hk => .inl (by simp [hk])), ?_, fun h => (h4.1 h).1⟩
    rcases hown.2 with ⟨rfl, rfl⟩ | ⟨g, cap, cur, rfl, hbg, hg, hnc, hcm, hcs, htake⟩
    · rcases Nat.eq_zero_or_pos m with hm0 | hm0
      · rw [h4.2 ⟨rfl, hm0⟩]
        exact .inl rfl
      · have hr2 := run_append_nil (P := P) w t ty e i z ht hi hz a m c news (by rw [hs]; exact hl) hnews hm0 (by omega) (by rw [hby]; have := hb; simp only [Nat.zero_add] at this; omega)
        rw [hr2] at hr
        injection hr with e1 e2
        subst e1
        exact .inr ⟨_, rfl, Nat.le_refl _⟩
    · by_cases hroom : n + m ≤ cap
      · obtain ⟨w2, hr2, _⟩ := run_append_fits (P := P) w 0 t ty e i size ht hi hs g n cap xs hown a m c news hl hnews h1 hroom
        rw [hr2] at hr
        injection hr with e1 e2
        subst e1
        exact .inl rfl
      · have hr2 := run_append_grow (P := P) w t ty e i z ht hi hz ⟨g, 0, none⟩ n cap xs (by rw [hs]; exact hown.1) (hown.cells (g := g) rfl) a m c news (by rw [hs]; exact hl) hnews (by omega) (by omega)
          (growslice_fits (by omega) (by rw [hby]; exact hb))
        rw [hr2] at hr
        injection hr with e1 e2
        subst e1
        exact .inr ⟨_, rfl, Nat.le_refl _⟩

theorem wpList_app {P : Program} {w : World} {ops : Array Oper} {rest : List Oper} {o : Oper} {a : Act} {Q : Exit → Act → World → Prop} (hgd : o.guard = none) (s x : Operand) (t : TypeId)
    (ho : o.op = .call { callee := .builtin .append, args := #[s, x], argTypes := #[t, t] }) (e : TypeId) (z : Value) (size bytes : Nat) (ht : P.underlying t = some (.slice e))
    (hI : (P.info? e).map (fun i => (i.zero, i.size, i.bytes)) = some (some z, size, bytes)) (hzs : z.cells.size = size) (hsz : 0 < size)
    (v : Value) (n : Nat) (xs : List Value) (hs : a.eval s = v) (hown : w.ownsRow 0 e size v n xs)
    (A : Option Addr) (m c : Nat) (news : List Value) (hx : a.eval x = .slice A m c) (hl : news.length = m * size) (hrd : Rd w A news) (hnil : A = none → c = 0) (h1 : ∀ u ∈ news, u.oneCell' = true)
    (hb : (n + m) * bytes ≤ 140737488355328) (hm : n + m ≤ 140737488355328)
    (h : ∀ v' w', w'.ownsRow 0 e size v' (n + m) (xs ++ news) → Kp v.ownBlock.toList w w' → At w.heap.size v.ownBlock v'.ownBlock → (v' = .slice none 0 0 → v = .slice none 0 0) →
      wpList P ops Q rest (a.put o.dst v') w') : wpList P ops Q (o :: rest) a w := by
  refine wpList_plain hgd fun K hK => ?_
  obtain ⟨v', w', hr, h2, h3, h4, h5⟩ := run_app (P := P) w t o.type e z size bytes ht hI hzs hsz v n xs hown A m c news hl hrd hnil h1 hb hm
  unfold Oper.wp execOp
  simp only [ho, resolve, invoke, builtin, Sem.run_bind, Sem.run_pure, Result.andThen_ok, List.map_toArray, List.map_cons, List.map_nil, hs, hx, hr]
  exact hK _ _ (h v' w' h2 h3 h4 h5)

theorem or128_fin : ∀ b : Fin 256, bits .or .u8 ((b.val : Nat) : Int) 128 = ((b.val % 128 + 128 : Nat) : Int) := by decide +kernel
theorem or128 (u : Nat) : bits .or .u8 ((u : Int) % 256) 128 = (u : Int) % 128 + 128 := by
  have h := or128_fin ⟨u % 256, Nat.mod_lt _ (by decide)⟩
  have e1 : (((u % 256 : Nat)) : Int) = (u : Int) % 256 := by omega
  have e2 : ((u % 256 % 128 + 128 : Nat) : Int) = (u : Int) % 128 + 128 := by omega
  simp only [e1, e2] at h
  exact h

theorem and127 (y : Int) (h0 : 0 ≤ y) (h1 : y < 256) : bits .and .u8 y 127 = y % 128 := bits_mask .u8 8 (by decide) wraps_u8 7 (by decide) y h0 h1
theorem wraps_u64 (n : Int) (h0 : 0 ≤ n) (h1 : n < 2 ^ 63) : IntKind.u64.wrap n = n := by rw [IntKind.wrap_u64]; omega
theorem or_comm' (k : IntKind) (a b : Int) : bits .or k a b = bits .or k b a := by simp only [bits, BitVec.or_comm]
theorem and127_u64 (u : Nat) (h : u ≤ 4611686018427387904) : bits .and .u64 (u : Int) 127 = (u : Int) % 128 := bits_mask .u64 63 (by decide) wraps_u64 7 (by decide) u (by omega) (by omega)
theorem or128' (u : Nat) (h : u ≤ 4611686018427387904) : bits .or .u8 (bits .and .u64 (u : Int) 127 % 256) 128 = (u : Int) % 128 + 128 := by
  rw [and127_u64 u h]
  have := or128 (u % 128)
  have e : ((u % 128 : Nat) : Int) = (u : Int) % 128 := by omega
  rw [e] at this
  rw [this]
  omega
/-- A digit more of a number. -/
theorem num_bits (u k : Nat) (y : Int) (h0 : 0 ≤ y) (h1 : y < 256) (hk : k ≤ 8) (hu : u < 128 ^ k) :
    bits .or .u64 (u : Int) (IntKind.u64.wrap (IntKind.u64.wrap (bits .and .u8 y 127) * 2 ^ (7 * k))) = ((u + y.toNat % 128 * 128 ^ k : Nat) : Int) := by
  have hp : (2 : Nat) ^ (7 * k) = 128 ^ k := by rw [Nat.pow_mul]
  have hpi : (2 : Int) ^ (7 * k) = ((128 ^ k : Nat) : Int) := by rw [← hp]; simp
  have hle : (128 : Nat) ^ k ≤ 128 ^ 8 := Nat.pow_le_pow_right (by decide) hk
  have h8 : (128 : Nat) ^ 8 = 72057594037927936 := by decide
  have e1 : IntKind.u64.wrap (y % 128) = ((y.toNat % 128 : Nat) : Int) := by rw [wraps_u64 _ (by omega) (by omega)]; omega
  have hm : y.toNat % 128 * 128 ^ k < 9223372036854775808 := by
    have : y.toNat % 128 * 128 ^ k ≤ 127 * 72057594037927936 := Nat.mul_le_mul (by omega) (by omega)
    omega
  have e2 : ((y.toNat % 128 : Nat) : Int) * ((128 ^ k : Nat) : Int) = ((y.toNat % 128 * 128 ^ k : Nat) : Int) := by rw [Int.natCast_mul]
  rw [and127 y h0 h1, e1, hpi, e2, wraps_u64 _ (by omega) (by omega), or_comm',
    bits_join .u64 63 (by decide) wraps_u64 (7 * k) _ _ (by omega) (by rw [hpi, ← e2]; exact Int.mul_emod_left _ _) (by omega) (by omega) (by rw [hpi]; omega) (by omega)]
  omega

/-- one cell, newly laid -/
theorem rd_one (w : World) (u : Value) (t : TypeId) : Rd (w.alloc (.cells #[u] t)) (some ⟨w.heap.size, 0, none⟩) [u] := by
  intro j v hv
  match j, hv with
  | 0, hv => simp at hv; subst hv; exact ⟨_, rfl, by simp [Addr.add]⟩
theorem rd_new (w : World) (us : List Value) (t : TypeId) : Rd (w.alloc (.cells us.toArray t)) (some ⟨w.heap.size, 0, none⟩) us := by
  intro j v hv
  refine ⟨_, rfl, ?_⟩
  rw [Addr.add_lit, World.cell?_alloc_new]
  simpa using hv
/-- a row of the call's own, newly laid -/
theorem own_new (w : World) (us : List Value) (e : TypeId) (hl : us.length ≤ maxLen) : (w.alloc (.cells us.toArray e)).ownsRow 0 e 1 (.slice (some ⟨w.heap.size, 0, none⟩) us.length us.length) us.length us := by
  have := World.ownsRow_lit (base := 0) (e := e) (size := 1) w us.toArray us.length (Nat.zero_le _) hl (by simp)
  simpa using this

end Go.Proofs.YtdiljpdohmeceaaGreat.H

/- bytes.Clone: the same bytes in new memory. -/
namespace Go.Proofs.YtdiljpdohmeceaaGreat.clone
open Go.RowKit H

theorem info_u8 : (Tryz.prog.info? 5).map (fun i => (i.zero, i.size, i.bytes)) = some (some (.int .u8 0), 1, 1) := by kernel_rfl

/-- append onto a row of bytes of the call's own -/
theorem app8 {w : World} {ops : Array Oper} {rest : List Oper} {o : Oper} {a : Act} {Q : Exit → Act → World → Prop} (hgd : o.guard = none) (s x : Operand)
    (ho : o.op = .call { callee := .builtin .append, args := #[s, x], argTypes := #[24, 24] })
    (v : Value) (n : Nat) (xs : List Value) (hs : a.eval s = v) (hown : w.ownsRow 0 5 1 v n xs)
    (A : Option Addr) (m c : Nat) (news : List Value) (hx : a.eval x = .slice A m c) (hl : news.length = m) (hrd : Rd w A news) (hnil : A = none → c = 0) (h1 : ∀ u ∈ news, u.oneCell' = true)
    (hm : n + m ≤ 140737488355328)
    (h : ∀ v' w', w'.ownsRow 0 5 1 v' (n + m) (xs ++ news) → Kp v.ownBlock.toList w w' → At w.heap.size v.ownBlock v'.ownBlock →
      wpList Tryz.prog ops Q rest (a.put o.dst v') w') : wpList Tryz.prog ops Q (o :: rest) a w :=
  wpList_app hgd s x 24 ho 5 (.int .u8 0) 1 1 Tryz.underlying24 info_u8 rfl (by decide) v n xs hs hown A m c news hx (by rw [hl, Nat.mul_one]) hrd hnil h1 (by rw [Nat.mul_one]; exact hm) hm
    (fun v' w' h1 h2 h3 _ => h v' w' h1 h2 h3)
/-- the same of one byte -/
theorem app8_one {w : World} {ops : Array Oper} {rest : List Oper} {o : Oper} {a : Act} {Q : Exit → Act → World → Prop} (hgd : o.guard = none) (s x : Operand)
    (ho : o.op = .call { callee := .builtin .append, args := #[s, x], argTypes := #[24, 24] })
    (v : Value) (n : Nat) (xs : List Value) (hs : a.eval s = v) (hown : w.ownsRow 0 5 1 v n xs) (y : Int)
    (hx : a.eval x = .slice (some ⟨w.heap.size, 0, none⟩) 1 1) (hm : n + 1 ≤ 140737488355328)
    (h : ∀ v' w', w'.ownsRow 0 5 1 v' (n + 1) (xs ++ [.int .u8 y]) → Kp v.ownBlock.toList (w.alloc (.cells #[.int .u8 y] 5)) w' → At (w.heap.size + 1) v.ownBlock v'.ownBlock →
      wpList Tryz.prog ops Q rest (a.put o.dst v') w') : wpList Tryz.prog ops Q (o :: rest) a (w.alloc (.cells #[.int .u8 y] 5)) :=
  app8 hgd s x ho v n xs hs (hown.alloc _) (some ⟨w.heap.size, 0, none⟩) 1 1 [.int .u8 y] hx rfl (rd_one _ _ _) (by simp) (by simp [Value.oneCell']) hm
    (fun v' w' h1 h2 h3 => h v' w' h1 h2 (by simpa using h3))

set_option maxHeartbeats 1000000 in
theorem clone_any (A : Option Addr) (n c : Nat) (xs : List Int) (w : World) (hn : xs.length = n) (h0 : Rd w A (iv .u8 xs)) (hnil : A = none → c = 0) (hb : n ≤ 140737488355328) :
    Calls Tryz.prog 118 #[.slice A n c] w (RetOwn 5 .u8 w xs) := by
  subst hn
  have H0 := As.mk h0
  have HN := As.mk hnil
  clear h0 hnil
  cases A with
  | none =>
    have hx : xs = [] := iv_nil (rd_nil_of_none H0.out)
    subst hx
    have hc := HN.out rfl
    subst hc
    have hq := fun (w : World) => Lib.run_eql_slice_nil (P := Tryz.prog) w 24 5 none 0 0 0 0 Tryz.underlying24
    go_enter Tryz.func118, Tryz.ntmps118
    go_wp2
    go_ret
    exact ⟨_, rfl, Own.nil _ _ _ _, Kp.refl _ _⟩
  | some a =>
    have hq := fun (w : World) => Lib.run_eql_slice_nil (P := Tryz.prog) w 24 5 (some a) xs.length c 0 0 Tryz.underlying24
    go_enter Tryz.func118, Tryz.ntmps118
    go_wp2_with (at_builtin; refine app8 rfl (.tmp 5) (.tmp 6) rfl (.slice (some ⟨w.heap.size, 0, none⟩) 0 0) 0 [] rfl (own_new w [] _ (Nat.zero_le _)) (some a) xs.length c (iv .u8 xs) rfl (iv_len _ _) (((Kp.refl [] w).alloc _).rd_new H0.out (by simp)) (by simp) (iv_one _ _) (by omega) ?_; intro v' w1 hown hk hat; have HO := As.mk hown; have HK := As.mk hk; have HA := As.mk hat; clear hown hk hat)
    go_ret
    exact ⟨v', rfl, ⟨by simpa using HO.out, HA.out.ge (by simp) (by simp [Value.ownBlock])⟩, ((Kp.refl [] w).alloc _).trans HK.out (by simp [Value.ownBlock])⟩

end Go.Proofs.YtdiljpdohmeceaaGreat.clone

/- Numbers as bytes, and back: the plain mathematics of chapter 1. No program in sight. -/
namespace Go.Proofs.YtdiljpdohmeceaaGreat.O

/-- A number as it is laid: from 0 to 2^62. -/
def cl (n : Int) : Nat := if n < 0 then 0 else if 4611686018427387904 < n then 4611686018427387904 else n.toNat
theorem cl_le (n : Int) : cl n ≤ 4611686018427387904 := by unfold cl; split <;> (try split) <;> omega
theorem cl_of {n : Int} (h0 : 0 ≤ n) (h1 : n ≤ 4611686018427387904) : (cl n : Int) = n := by unfold cl; split <;> (try split) <;> omega

theorem cl_if (x : Int) : (if min x 4611686018427387904 > 0 then min x 4611686018427387904 else 0) = (cl x : Int) := by
  unfold cl
  split <;> split <;> (try split) <;> omega
/-- Seven binary digits a byte. -/
def enc (u : Nat) : List Int := if u < 128 then [(u : Int)] else ((u : Int) % 128 + 128) :: enc (u / 128)
termination_by u
decreasing_by omega
theorem enc_lo {u : Nat} (h : u < 128) : enc u = [(u : Int)] := by rw [enc, if_pos h]
theorem enc_hi {u : Nat} (h : ¬ u < 128) : enc u = ((u : Int) % 128 + 128) :: enc (u / 128) := by rw [enc, if_neg h]

theorem enc_len : ∀ (k u : Nat), u < 128 ^ (k + 1) → (enc u).length ≤ k + 1
  | 0, u, h => by rw [enc_lo (by simpa using h)]; simp
  | k + 1, u, h => by
    by_cases h1 : u < 128
    · rw [enc_lo h1]; simp
    · rw [enc_hi h1]
      have := enc_len k (u / 128) (by rw [Nat.pow_succ] at h; omega)
      simp only [List.length_cons]
      omega
theorem enc_pos (u : Nat) : 0 < (enc u).length := by
  by_cases h : u < 128
  · rw [enc_lo h]; simp
  · rw [enc_hi h]; simp
theorem enc_u8 (u : Nat) : ∀ x ∈ enc u, 0 ≤ x ∧ x < 256 := by
  induction u using Nat.strongRecOn with
  | _ u ih =>
    by_cases h : u < 128
    · rw [enc_lo h]; intro x hx; simp at hx; omega
    · rw [enc_hi h]
      intro x hx
      rcases List.mem_cons.1 hx with rfl | hx
      · omega
      · exact ih (u / 128) (by omega) x hx

def num (n : Int) : List Int := enc (cl n)
def nums (l : List Int) : List Int := l.flatMap num
def row (x : List Int) : List Int := num x.length ++ x
def rows (l : List (List Int)) : List Int := l.flatMap row

theorem num_len (n : Int) : (num n).length ≤ 9 := enc_len 8 _ (by have := cl_le n; omega)
theorem num_pos (n : Int) : 0 < (num n).length := enc_pos _
theorem num_u8 (n : Int) : ∀ x ∈ num n, 0 ≤ x ∧ x < 256 := enc_u8 _
theorem nums_cons (n : Int) (l : List Int) : nums (n :: l) = num n ++ nums l := by simp [nums]
theorem nums_app (a b : List Int) : nums (a ++ b) = nums a ++ nums b := by simp [nums]
theorem nums_one (n : Int) : nums [n] = num n := by simp [nums]
theorem nums_nil : nums [] = [] := rfl
theorem nums_len (l : List Int) : (nums l).length ≤ 9 * l.length := by
  induction l with
  | nil => simp [nums]
  | cons x l ih => rw [nums_cons, List.length_append, List.length_cons]; have := num_len x; omega
theorem nums_u8 (l : List Int) : ∀ x ∈ nums l, 0 ≤ x ∧ x < 256 := by
  intro x hx
  obtain ⟨n, _, h⟩ := List.mem_flatMap.1 hx
  exact num_u8 n x h
theorem take_succ' {α : Type} (l : List α) (k : Nat) (h : k < l.length) : l.take (k + 1) = l.take k ++ [l[k]] := List.take_succ_eq_append_getElem h
theorem nums_step (l : List Int) (k : Nat) (h : k < l.length) : nums (l.take (k + 1)) = nums (l.take k) ++ num l[k] := by
  rw [take_succ' l k h, nums_app, nums_one]
theorem rows_app (a b : List (List Int)) : rows (a ++ b) = rows a ++ rows b := by simp [rows]
theorem rows_one (x : List Int) : rows [x] = row x := by simp [rows]
theorem rows_cons (x : List Int) (l : List (List Int)) : rows (x :: l) = row x ++ rows l := by simp [rows]
theorem rows_step (l : List (List Int)) (k : Nat) (h : k < l.length) : rows (l.take (k + 1)) = rows (l.take k) ++ row l[k] := by
  rw [take_succ' l k h, rows_app, rows_one]
theorem rows_len (l : List (List Int)) : (rows l).length ≤ 9 * l.length + l.flatten.length := by
  induction l with
  | nil => simp [rows]
  | cons x l ih =>
    rw [rows_cons, List.length_append, List.length_cons, List.flatten_cons, List.length_append]
    have h : (row x).length = (num x.length).length + x.length := by rw [row, List.length_append]
    have := num_len x.length
    omega
theorem rows_len_take (l : List (List Int)) (k : Nat) (h : k < l.length) : (rows (l.take k)).length + 9 + l[k].length ≤ 9 * l.length + l.flatten.length := by
  have h1 := rows_len (l.take k)
  have h2 : (l.take (k + 1)).flatten.length + (l.drop (k + 1)).flatten.length = l.flatten.length := by
    rw [← List.length_append, ← List.flatten_append, List.take_append_drop]
  rw [take_succ' l k h, List.flatten_append, List.length_append] at h2
  simp only [List.flatten_cons, List.flatten_nil, List.append_nil, List.length_take] at h1 h2
  omega
theorem row_u8 (x : List Int) (h : ∀ c ∈ x, 0 ≤ c ∧ c < 256) : ∀ c ∈ row x, 0 ≤ c ∧ c < 256 := by
  intro c hc
  rcases List.mem_append.1 hc with hc | hc
  · exact num_u8 _ c hc
  · exact h c hc

/-- A number is taken: from byte i on, u so far. -/
def decF : Nat → Nat → List Int → Option (Nat × List Int)
  | _, _, [] => none
  | i, u, c :: r =>
    if 9 ≤ i ∨ (0 < i ∧ c = 0) then none
    else if c < 128 then (if 4611686018427387904 < u + c.toNat * 128 ^ i then none else some (u + c.toNat * 128 ^ i, r))
    else decF (i + 1) (u + (c.toNat - 128) * 128 ^ i) r
def dec (l : List Int) : Option (Nat × List Int) := decF 0 0 l

theorem split128 (u v p : Nat) : u + v % 128 * p + v / 128 * (p * 128) = u + v * p := by
  have h1 : v / 128 * (p * 128) = 128 * (v / 128 * p) := by rw [← Nat.mul_assoc, Nat.mul_comm]
  have h2 : v * p = 128 * (v / 128 * p) + v % 128 * p := by
    have h3 : (128 * (v / 128) + v % 128) * p = 128 * (v / 128 * p) + v % 128 * p := by rw [Nat.add_mul, Nat.mul_assoc]
    rwa [Nat.div_add_mod] at h3
  omega
theorem decF_enc : ∀ (v i u : Nat) (r : List Int), (i = 0 ∨ 0 < v) → u + v * 128 ^ i ≤ 4611686018427387904 → decF i u (enc v ++ r) = some (u + v * 128 ^ i, r) := by
  intro v
  induction v using Nat.strongRecOn with
  | _ v ih =>
    intro i u r hv hb
    have hi : ¬ 9 ≤ i := by
      intro h9
      rcases hv with h | h
      · omega
      · have : 128 ^ 9 ≤ 128 ^ i := Nat.pow_le_pow_right (by decide) h9
        have h2 : 1 * 128 ^ i ≤ v * 128 ^ i := Nat.mul_le_mul_right _ h
        have h3 : (128 : Nat) ^ 9 = 9223372036854775808 := by decide
        omega
    by_cases h : v < 128
    · rw [enc_lo h]
      simp only [List.cons_append, List.nil_append, decF]
      rw [if_neg (by omega), if_pos (by omega)]
      simp only [Int.toNat_natCast]
      rw [if_neg (by omega)]
    · rw [enc_hi h]
      simp only [List.cons_append, decF]
      rw [if_neg (by omega), if_neg (by omega)]
      have e1 : ((v : Int) % 128 + 128).toNat - 128 = v % 128 := by omega
      rw [e1]
      have hp : 128 ^ (i + 1) = 128 ^ i * 128 := Nat.pow_succ ..
      have e2 : u + v % 128 * 128 ^ i + v / 128 * 128 ^ (i + 1) = u + v * 128 ^ i := by rw [hp]; exact split128 u v (128 ^ i)
      rw [ih (v / 128) (by omega) (i + 1) _ r (.inr (by omega)) (by rw [e2]; exact hb), e2]
theorem decF_enc0 (v : Nat) (r : List Int) (h : v ≤ 4611686018427387904) : decF 0 0 (enc v ++ r) = some (v, r) := by
  have e : 0 + v * 128 ^ 0 = v := by rw [Nat.pow_zero, Nat.mul_one, Nat.zero_add]
  have h0 : 0 + v * 128 ^ 0 ≤ 4611686018427387904 := Nat.le_trans (Nat.le_of_eq e) h
  exact (decF_enc v 0 0 r (.inl rfl) h0).trans (congrArg (fun x => some (x, r)) e)
theorem dec_num (n : Int) (r : List Int) : dec (num n ++ r) = some (cl n, r) := decF_enc0 (cl n) r (cl_le n)

theorem decF_bd : ∀ (l : List Int) (i u v : Nat) (r : List Int), decF i u l = some (v, r) → v ≤ 4611686018427387904 ∧ ∃ p, l = p ++ r ∧ p ≠ []
  | [], i, u, v, r, h => by simp [decF] at h
  | c :: l, i, u, v, r, h => by
    simp only [decF] at h
    split at h
    · cases h
    · split at h
      · split at h
        · cases h
        · simp only [Option.some.injEq, Prod.mk.injEq] at h
          obtain ⟨rfl, rfl⟩ := h
          exact ⟨by omega, [c], by simp⟩
      · obtain ⟨h1, p, rfl, h2⟩ := decF_bd l _ _ v r h
        exact ⟨h1, c :: p, by simp⟩
theorem dec_bd {l : List Int} {v : Nat} {r : List Int} (h : dec l = some (v, r)) : v ≤ 4611686018427387904 := (decF_bd l 0 0 v r h).1
theorem dec_suffix {l : List Int} {v : Nat} {r : List Int} (h : dec l = some (v, r)) : ∃ p, l = p ++ r ∧ p ≠ [] := (decF_bd l 0 0 v r h).2

/-! What a Reader holds: the bytes that are left, or nothing: it erred. -/
def stNum (s : Option (List Int)) : Nat × Option (List Int) :=
  match s with
  | none => (0, none)
  | some l => match dec l with
    | none => (0, none)
    | some (v, r) => (v, some r)
def stRaw (n : Int) (s : Option (List Int)) : List Int × Option (List Int) :=
  match s with
  | none => ([], none)
  | some l => if n < 0 ∨ (l.length : Int) < n then ([], none) else (l.take n.toNat, some (l.drop n.toNat))
def stBytes (s : Option (List Int)) : List Int × Option (List Int) := stRaw (stNum s).1 (stNum s).2
def stNums : Nat → Option (List Int) → List Int × Option (List Int)
  | 0, s => ([], s)
  | k + 1, s => (((stNum s).1 : Int) :: (stNums k (stNum s).2).1, (stNums k (stNum s).2).2)
def left (s : Option (List Int)) : List Int := s.getD []

theorem stNum_num (n : Int) (r : List Int) : stNum (some (num n ++ r)) = (cl n, some r) := by simp [stNum, dec_num]
theorem stBytes_row (x r : List Int) (hx : x.length ≤ 4611686018427387904) : stBytes (some (row x ++ r)) = (x, some r) := by
  have e : (cl x.length : Int) = x.length := cl_of (by omega) (by omega)
  simp only [stBytes, row, List.append_assoc, stNum_num, stRaw]
  rw [if_neg (by rw [e]; simp only [List.length_append]; omega), e]
  simp

end Go.Proofs.YtdiljpdohmeceaaGreat.O

/- bytes.Join with nothing between: the rows, one behind the other, in new memory. -/
namespace Go.Proofs.YtdiljpdohmeceaaGreat.joins
open Go.RowKit H O

/-- A row that is filled from the front, in the block behind w: the bytes zs are laid, T have room. -/
structure Bf (w wr : World) (T : Nat) (zs : List Int) : Prop where
  kp : Kp [] w wr
  ex : ∃ cur : List Value, wr.heap[w.heap.size]? = some (.cells cur.toArray 5 (0, 0)) ∧ T ≤ cur.length ∧ cur.take zs.length = iv .u8 zs ∧ zs.length ≤ T

theorem hs8 : (Tryz.prog.info? 5).map (·.size) = some 1 := by kernel_rfl
/-- b[p:] of a row of T. -/
theorem tail_of (h T p : Nat) (hb : p ≤ T) : ∃ tl, (∀ W, (Instr.slice 24 (.slice (some ⟨h, 0, none⟩) T T) (some (.int .i64 (p : Int))) none none).run Tryz.prog W = .ok (.slice (some tl) (T - p) (T - p)) W) ∧ (p < T → tl = ⟨h, p, none⟩) := by
  have ht' : Tryz.prog.underlying 24 = some (.slice (Tryz.prog.elem 24)) := by kernel_rfl
  have hz : ∀ w, (Go.sizeOf (Tryz.prog.elem 24)).run Tryz.prog w = .ok 1 w := fun w => by
    obtain ⟨i, hi, _⟩ := Option.map_eq_some_iff.1 hs8
    rw [show Tryz.prog.elem 24 = 5 from by kernel_rfl, run_sizeOf w hi, show Tryz.prog.cellsOf 5 = 1 from by kernel_rfl]
  refine ⟨if T = p then ⟨h, 0, none⟩ else (⟨h, 0, none⟩ : Addr).add p, fun W => ?_, fun hp => ?_⟩
  · rw [run_slice_l W _ _ _ _ ht' .i64 _ (by omega) (by omega), hz]
    simp only [Result.andThen, sliced, Int.toNat_natCast, Nat.mul_one, Option.map_some]
    split <;> rfl
  · rw [if_neg (by omega), Addr.add_lit, Nat.zero_add]

/-- The operation that writes slot n. -/
theorem at_slot (n : Nat) {P : Program} {w : World} {ops : Array Oper} {rest : List Oper} {op : Op} {ty : TypeId} {pos : String} {after : Array Edge} {guard : Option (Nat × Bool)} {a : Act} {Q : Exit → Act → World → Prop}
    (h : wpList P ops Q (⟨some n, op, ty, pos, after, guard⟩ :: rest) a w) : wpList P ops Q (⟨some n, op, ty, pos, after, guard⟩ :: rest) a w := h
theorem Bf.copy {w wr : World} {T p m c : Nat} {zs x : List Int} (h : Bf w wr T zs) (hz : zs.length = p) {ops : Array Oper} {rest : List Oper} {o : Oper} {a : Act} {Q : Exit → Act → World → Prop} (hgd : o.guard = none) (d s : Operand)
    (ho : o.op = .call { callee := .builtin .copy, args := #[d, s], argTypes := #[24, 24] }) (tl : Addr) (dl dc : Nat) (hdl : dl = T - p) (htl : p < T → tl = ⟨w.heap.size, p, none⟩) (hd : a.eval d = .slice (some tl) dl dc)
    (A : Option Addr) (hs : a.eval s = .slice A m c) (hx : x.length = m) (hr : Rd w A (iv .u8 x)) (hfit : p + m ≤ T)
    (hk : ∀ w', Bf w w' T (zs ++ x) → wpList Tryz.prog ops Q rest (a.put o.dst (.int .i64 (m : Int))) w') : wpList Tryz.prog ops Q (o :: rest) a wr := by
  subst hz hx hdl
  obtain ⟨cur, hg, hT, ht, hl⟩ := h.ex
  have hil := iv_len .u8 x
  refine wpList_copy_splice hgd d s _ _ ho 5 Tryz.underlying24 hs8 (some tl) A _ _ _ _ hd hs w.heap.size zs.length cur 5 hg (iv .u8 x) (by rw [hil]; exact (Nat.min_eq_left (by omega)).symm) ?_ (by rw [hil]; omega) (iv_one _ _) w.heap.size w h.kp.below (Nat.le_refl _) ?_
  · intro hp
    rw [hil] at hp
    refine ⟨by rw [htl (by omega)], ?_⟩
    obtain ⟨ad, rfl, _⟩ := hr.lt (by rw [hil]; exact hp)
    refine ⟨ad, rfl, fun j v hv => ?_⟩
    obtain ⟨ad', he, hc⟩ := (h.kp.rd_new hr (by simp)) j v hv
    cases he
    exact hc
  · intro w' hw' hb'
    rw [hil]
    refine hk w' ⟨Kp.of_below hb' _, _, hw'.out, ?_, ?_, ?_⟩
    · rw [length_splice _ _ _ (by rw [hil]; omega)]
      exact hT
    · have e1 : min (zs.length + x.length) zs.length = zs.length := by omega
      have e2 : min zs.length cur.length = zs.length := by omega
      have e3 : zs.length + x.length - zs.length = x.length := by omega
      unfold splice
      rw [iv_app, List.length_append, List.take_append, List.take_append, List.take_take, List.length_take, hil, e1, e2, e3, ht, List.take_of_length_le (by rw [hil]; exact Nat.le_refl _), Nat.sub_self, List.take_zero, List.append_nil]
    · rw [List.length_append]
      exact hfit
theorem Bf.rd {w wr : World} {T : Nat} {zs : List Int} (h : Bf w wr T zs) : Rd wr (some ⟨w.heap.size, 0, none⟩) (iv .u8 zs) := by
  obtain ⟨cur, hg, hT, ht, hl⟩ := h.ex
  intro j v hv
  refine ⟨_, rfl, ?_⟩
  rw [← ht, List.getElem?_take] at hv
  split at hv
  · rw [Addr.add_lit, Nat.zero_add]
    exact blk_cell hg j (by simpa using hv)
  · cases hv
theorem Bf.lt {w wr : World} {T : Nat} {zs : List Int} (h : Bf w wr T zs) : w.heap.size < wr.heap.size := by
  obtain ⟨cur, hg, _⟩ := h.ex
  exact lt_of_block hg

/-- What Join hands back: a row of its own, or one that is full. -/
def JoinPost (xs : List Int) (w : World) (e : Ending) (w' : World) : Prop :=
  ∃ v, e = .returned v ∧ Kp [] w w' ∧ (Own 5 .u8 w' w.heap.size v xs ∨ ∃ g, v = .slice (some ⟨g, 0, none⟩) xs.length xs.length ∧ w.heap.size ≤ g ∧ g < w'.heap.size ∧ Rd w' (some ⟨g, 0, none⟩) (iv .u8 xs))

theorem flat_step (l : List (List Int)) (k : Nat) (h : k < l.length) : (l.take (k + 1)).flatten = (l.take k).flatten ++ l[k] := by
  rw [take_succ' l k h, List.flatten_append]
  simp
theorem flat_le (l : List (List Int)) (k : Nat) : (l.take k).flatten.length ≤ l.flatten.length := by
  have h := congrArg (fun z => z.flatten.length) (List.take_append_drop k l)
  simp only [List.flatten_append, List.length_append] at h
  omega

set_option maxHeartbeats 8000000 in
set_option maxRecDepth 100000 in
theorem join_many (A : Option Addr) (n c : Nat) (l : List (List Int)) (w : World) (hn : l.length = n) (h2 : 2 ≤ n) (hr : Rs [] w A l) (hc : n ≤ c) (hw : ∀ x ∈ l, Wf x) (hb : l.flatten.length ≤ 140737488351232) (hm : n ≤ 140737488351232) :
    Calls Tryz.prog 141 #[.slice A n c, .slice none 0 0] w (JoinPost l.flatten w) := by
  obtain ⟨a, rfl⟩ : ∃ a, A = some a := by
    obtain ⟨a, _, _, h, _⟩ := hr 0 (by omega)
    exact ⟨a, h⟩
  have HR := As.mk hr
  have HL := As.mk hn
  have HW := As.mk hw
  clear hr hn hw
  have f0 : ((n : Int) == 0) = false := beq_eq_false_iff_ne.2 (by omega)
  have f1 : ((n : Int) == 1) = false := beq_eq_false_iff_ne.2 (by omega)
  have hs8 : (Tryz.prog.info? 5).map (·.size) = some 1 := by kernel_rfl
  go_enter Tryz.func141, Tryz.ntmps141
  go_wp2
  go_loopw [5, 44] (fun s5 s44 wr => ∃ k : Nat, s44 = .int .i64 (k : Int) ∧ k ≤ n ∧ s5 = .int .i64 (((l.take k).flatten.length : Nat) : Int) ∧ As (wr = w)) (fun _ i _ => n - (intOf i).toNat)
  case atStart => exact ⟨0, rfl, by omega, rfl, ⟨rfl⟩⟩
  case round =>
    obtain ⟨k, rfl, hk, rfl, ⟨rfl⟩⟩ := hrel
    by_cases hlt : k < n
    · have hlx : k < l.length := by rw [HL.out]; exact hlt
      obtain ⟨a', Aj, cj, ha', _, d0, hcj, _, _⟩ := HR.out k hlx
      cases ha'
      have hfs := congrArg List.length (flat_step l k hlx)
      have hfl := flat_le l (k + 1)
      rw [List.length_append] at hfs
      obtain ⟨len, hlen⟩ : ∃ len, l[k].length = len := ⟨_, rfl⟩
      obtain ⟨acc, hacc⟩ : ∃ acc, (l.take k).flatten.length = acc := ⟨_, rfl⟩
      obtain ⟨acc', hacc'⟩ : ∃ acc', (l.take (k + 1)).flatten.length = acc' := ⟨_, rfl⟩
      rw [hlen] at d0 hcj hfs
      rw [hacc, hacc'] at hfs
      rw [hacc'] at hfl
      rw [hacc]
      have hb' : ¬ (9223372036854775807 - (acc : Int) < (len : Int)) := by omega
      have HA' := As.mk hacc'
      have HFS := As.mk hfs
      have HFL : acc + len ≤ l.flatten.length := by omega
      clear hfs hfl hlen hacc hacc'
      go_wp2
      go_roundw
      case rel => exact ⟨k + 1, by go_num, by omega, by rw [HA'.out, HFS.out]; go_num, ⟨trivial⟩⟩
      case measure => simp [intOf]; omega
    · obtain rfl : k = n := by omega
      have hall : l.take k = l := List.take_of_length_le (by rw [HL.out]; omega)
      rw [hall]
      obtain ⟨T, hT⟩ : ∃ T, l.flatten.length = T := ⟨_, rfl⟩
      rw [hT] at hb ⊢
      have HT := As.mk hT
      clear hall hT
      obtain ⟨cs, hrunM, hle, _⟩ := Lib.run_makeNoZero (P := Tryz.prog) wr #[3] 24 5 Tryz.underlying24 T (by omega)
      have hcall : (callFunc 142 #[.int .i64 (T : Int)]).run Tryz.prog wr = .ok (.value (.slice (some ⟨wr.heap.size, 0, none⟩) T cs.size)) ((wr.alloc (.cells cs 5)).drewN 2) := by
        rw [run_callFunc_extern Tryz.func142 (by kernel_rfl) (by kernel_rfl) (by kernel_rfl) (e := Extern.BytealgMakeNoZero.makeNoZero #[3] #[24]) (by kernel_rfl), hrunM]
        rfl
      have i0 : (0 : Int) ≤ (T : Int) := by omega
      have i1 : (T : Int) ≤ (cs.size : Int) := by omega
      have B0 : Bf wr ((wr.alloc (.cells cs 5)).drewN 2) T [] := ⟨((Kp.refl [] wr).alloc _).drewN 2, cs.toList, by
        have := heap_alloc_new wr (.cells cs 5)
        simpa using this, by simpa using hle, by simp [iv], Nat.zero_le _⟩
      obtain ⟨a', A0, c0, ha', _, d0, hc0, _, r0⟩ := HR.out 0 (by rw [HL.out]; omega)
      cases ha'
      obtain ⟨x0, hx0⟩ : ∃ x0, x0 = l[0]'(by rw [HL.out]; omega) := ⟨_, rfl⟩
      rw [← hx0] at d0 hc0 r0
      obtain ⟨m0, hm0⟩ : ∃ m0, x0.length = m0 := ⟨_, rfl⟩
      rw [hm0] at d0 hc0
      have e0 := B0.kp.cell d0 (by simp)
      rw [add_zero'] at e0
      have hfit0 : 0 + m0 ≤ T := by
        have h1 := flat_step l 0 (by rw [HL.out]; omega)
        have h2 := flat_le l 1
        rw [h1, List.take_zero, List.flatten_nil, List.nil_append, ← hx0, hm0, HT.out] at h2
        omega
      have HB0 := As.mk B0
      have HR0 := As.mk r0.rd
      have HM0 := As.mk hm0
      have HX0 := As.mk hx0
      clear hrunM B0 r0 d0 hx0 hm0
      go_wp2_with (with_reducible refine at_slot 68 ?_; go_loud (refine HB0.out.copy (p := 0) rfl rfl (.tmp 64) (.tmp 67) rfl ⟨wr.heap.size, 0, none⟩ T T (Nat.sub_zero T).symm (fun _ => rfl) rfl A0 rfl HM0.out HR0.out hfit0 ?_); go_loud (intro w1 B1); go_loud (have HB1 := As.mk B1); rw [List.nil_append] at HB1; clear B1)
      obtain ⟨w0, rfl⟩ : ∃ w0, w0 = wr := ⟨_, rfl⟩
      have HC0 : As ((l.take (0 + 1)).flatten = x0) := ⟨by rw [flat_step l 0 (by rw [HL.out]; omega), List.take_zero, List.flatten_nil, List.nil_append, ← HX0.out]⟩
      have hc1 : ¬ c = 1 := by omega
      go_loopw [9, 72] (fun s9 s72 wr => ∃ j : Nat, s72 = .int .i64 (j : Int) ∧ j ≤ k - 1 ∧ s9 = .int .i64 (((l.take (j + 1)).flatten.length : Nat) : Int) ∧ As (Bf w0 wr T (l.take (j + 1)).flatten)) (fun _ i _ => k - 1 - (intOf i).toNat)
      case atStart => exact ⟨0, rfl, by omega, by rw [HC0.out, HM0.out], ⟨by rw [HC0.out]; exact HB1.out⟩⟩
      case round =>
        obtain ⟨j, rfl, hj, rfl, HB⟩ := hrel
        obtain ⟨p, hp⟩ : ∃ p, (l.take (j + 1)).flatten.length = p := ⟨_, rfl⟩
        rw [hp]
        have hpT : p ≤ T := by have := flat_le l (j + 1); rw [hp, HT.out] at this; exact this
        have HP := As.mk hp
        by_cases hlt : j < k - 1
        · have hlx : j + 1 < l.length := by rw [HL.out]; omega
          obtain ⟨a', Aj, cj, ha', _, d1, hcj, _, rj⟩ := HR.out (j + 1) hlx
          cases ha'
          obtain ⟨x, hx⟩ : ∃ x, x = l[j + 1] := ⟨_, rfl⟩
          rw [← hx] at d1 hcj rj
          obtain ⟨len, hlen⟩ : ∃ len, x.length = len := ⟨_, rfl⟩
          rw [hlen] at d1 hcj
          have d2 := HB.out.kp.cell d1 (by simp)
          rw [show a.add (j + 1) = ⟨a.block, a.off + 1 + j, none⟩ from by unfold Addr.add; rw [if_neg (by omega)]; congr 1; omega] at d2
          have hstep := flat_step l (j + 1) hlx
          rw [← hx] at hstep
          have hlens := congrArg List.length hstep
          rw [List.length_append, hp, hlen] at hlens
          have hfit : p + len ≤ T := by have := flat_le l (j + 1 + 1); rw [hlens, HT.out] at this; exact this
          obtain ⟨tl, hsl, htl⟩ := tail_of w0.heap.size T p hpT
          have HLEN := As.mk hlen
          have HRJ := As.mk rj.rd
          have HSTEP := As.mk hstep
          have HLENS := As.mk hlens
          have HTL := As.mk htl
          have hjz : (j : Int) < ((k - 1 : Nat) : Int) := by omega
          clear hx d1 rj hstep hlens htl hlen hp
          go_wp2_with (first
            | (with_reducible refine at_slot 81 ?_; refine wpList_copy_nothing rfl (.tmp 79) (.tmp 80) 24 24 rfl 5 Tryz.underlying24 hs8 (some tl) none (T - p) (T - p) 0 0 rfl rfl (Nat.zero_min _) ?_)
            | (with_reducible refine at_slot 88 ?_; refine HB.out.copy HP.out rfl (.tmp 86) (.tmp 87) rfl tl (T - p) (T - p) rfl HTL.out rfl Aj rfl HLEN.out HRJ.out hfit ?_; intro w5 B5; have HB5 := As.mk B5; clear B5))
          go_roundw
          case rel => exact ⟨j + 1, by go_num, by omega, by rw [HLENS.out]; go_num, ⟨by rw [HSTEP.out]; exact HB5.out⟩⟩
          case measure => simp [intOf]; omega
        · obtain rfl : j = k - 1 := by omega
          have hjz : ¬ (((k - 1 : Nat) : Int) < ((k - 1 : Nat) : Int)) := by omega
          have hall : l.take (k - 1 + 1) = l := List.take_of_length_le (by rw [HL.out]; omega)
          rw [hall] at HB
          clear hp
          go_wp2
          go_ret
          exact ⟨_, rfl, HB.out.kp, .inr ⟨w0.heap.size, by rw [HT.out]; rfl, Nat.le_refl _, HB.out.lt, HB.out.rd⟩⟩

set_option maxHeartbeats 4000000 in
theorem join_any (A : Option Addr) (n c : Nat) (l : List (List Int)) (w : World) (hn : l.length = n) (hr : Rs [] w A l) (hc : n ≤ c) (hw : ∀ x ∈ l, Wf x) (hb : l.flatten.length ≤ 140737488351232) (hm : n ≤ 140737488351232) :
    Calls Tryz.prog 141 #[.slice A n c, .slice none 0 0] w (JoinPost l.flatten w) := by
  by_cases h2 : 2 ≤ n
  · exact join_many A n c l w hn h2 hr hc hw hb hm
  · by_cases h0 : n = 0
    · subst h0
      have hl : l = [] := List.eq_nil_of_length_eq_zero hn
      subst hl
      clear hr hw hb
      go_enter Tryz.func141, Tryz.ntmps141
      go_wp2
      go_ret
      exact ⟨_, rfl, (Kp.refl [] w).alloc _, .inl ⟨own_new w [] _ (Nat.zero_le _), by simp [Value.ownBlock]⟩⟩
    · obtain rfl : n = 1 := by omega
      obtain ⟨a, A0, c0, rfl, _, d0, hc0, hn0, r0⟩ := hr 0 (by omega)
      obtain ⟨x, hx⟩ : ∃ x, x = l[0]'(by omega) := ⟨_, rfl⟩
      rw [← hx] at d0 hc0 r0
      rw [add_zero'] at d0
      obtain ⟨m, hlen⟩ : ∃ m, x.length = m := ⟨_, rfl⟩
      rw [hlen] at d0 hc0
      have hfl : l.flatten = x := by
        match l, hn, hx with
        | [y], _, hx => rw [hx]; simp
      rw [hfl] at hb ⊢
      rw [hlen] at hb
      have HR := As.mk r0.rd
      have HN := As.mk hn0
      have HX := As.mk hlen
      clear hr hw hx hn r0 hn0 hlen hfl
      go_enter Tryz.func141, Tryz.ntmps141
      go_wp2_with (at_builtin; refine clone.app8 rfl (.const (.slice none 0 0)) (.tmp 21) rfl (.slice none 0 0) 0 [] rfl (World.ownsRow_nil w 0 _ 1) A0 m c0 (iv .u8 x) rfl (by rw [iv_len, HX.out]) HR.out HN.out (iv_one _ _) (by omega) ?_; intro v6 w6 o6 k6 a6; have HO6 := As.mk o6; have HK6 := As.mk k6; have HA6 := As.mk a6; clear o6 k6 a6)
      go_ret
      exact ⟨v6, rfl, HK6.out.mono (by simp [Value.ownBlock]), .inl (own_of_app HX.out HO6.out HA6.out (Nat.le_refl _) (by simp [Value.ownBlock]))⟩

theorem ojoin_any (A : Option Addr) (n c : Nat) (l : List (List Int)) (w : World) (hn : l.length = n) (hr : Rs [] w A l) (hc : n ≤ c) (hw : ∀ x ∈ l, Wf x) (hb : l.flatten.length ≤ 140737488351232) (hm : n ≤ 140737488351232) :
    Calls Tryz.prog 133 #[.slice A n c] w (JoinPost l.flatten w) := by
  have HJ := As.mk (join_any A n c l w hn hr hc hw hb hm)
  clear hn hr hw hb
  go_enter Tryz.func133, Tryz.ntmps133
  go_wp2_with (go_at_call 141; refine HJ.out.mono ?_; rintro e w1 ⟨v, rfl, k1, o1⟩; have HK := As.mk k1; have HO := As.mk o1; clear k1 o1)
  go_ret
  exact ⟨v, rfl, HK.out, HO.out⟩
/-- What is handed back, read. -/
theorem post_rd {xs : List Int} {w w' : World} {v : Value} (o : Own 5 .u8 w' w.heap.size v xs ∨ ∃ g, v = .slice (some ⟨g, 0, none⟩) xs.length xs.length ∧ w.heap.size ≤ g ∧ g < w'.heap.size ∧ Rd w' (some ⟨g, 0, none⟩) (iv .u8 xs))
    (n : Nat) (hn : xs.length = n) (hm : n ≤ 140737488351232) : ∃ A c, v = .slice A n c ∧ n ≤ c ∧ c ≤ 9223372036854775807 ∧ Rd w' A (iv .u8 xs) ∧ (A = none → c = 0) := by
  subst hn
  rcases o with o | ⟨g, rfl, _, _, h⟩
  · obtain ⟨A, c, rfl, h1, h2, h3, h4⟩ := own_rd o.1
    exact ⟨A, c, rfl, h1, h2, h3, h4⟩
  · exact ⟨_, _, rfl, Nat.le_refl _, by omega, h, by simp⟩

end Go.Proofs.YtdiljpdohmeceaaGreat.joins

/- bytes.Equal. -/
namespace Go.Proofs.YtdiljpdohmeceaaGreat.frame
open Go.RowKit H O

theorem equal_any (A0 A1 : Option Addr) (n0 c0 n1 c1 : Nat) (xs ys : List Int) (w : World) (l0 : xs.length = n0) (l1 : ys.length = n1) (h0 : Rd w A0 (iv .u8 xs)) (h1 : Rd w A1 (iv .u8 ys)) (w0 : Wf xs) (w1 : Wf ys) :
    Calls Tryz.prog 138 #[.slice A0 n0 c0, .slice A1 n1 c1] w fun e w' => e = .returned (.bool (decide (xs = ys))) ∧ w' = w := by
  have hcv : ∀ (A : Option Addr) (n c : Nat) (zs : List Int), zs.length = n → Rd w A (iv .u8 zs) → (convert 24 9 (.slice A n c)).run Tryz.prog w = .ok (.string (strOfNums zs)) w := by
    intro A n c zs hz hr
    by_cases hn : 0 < n
    · obtain ⟨a, rfl, d0⟩ := hr.int 0 (by omega)
      obtain ⟨b, o, s⟩ := a
      obtain rfl : s = none := by simpa [Addr.add] using World.cell?_spot d0
      refine run_convert_bytes_arg w 24 5 Tryz.underlying24 Tryz.underlying5 b o n c zs hz ?_ 9 Tryz.underlying9
      intro i hi
      obtain ⟨_, e, d⟩ := hr.int i (by omega)
      cases e
      rw [Go.WideShapes.add_plain] at d
      rw [d]
      simp [List.getD, show i < zs.length by omega]
    · obtain rfl : n = 0 := by omega
      obtain rfl : zs = [] := List.eq_nil_of_length_eq_zero hz
      rw [run_convert_bytes_string w 24 9 5 _ 0 c Tryz.underlying24 Tryz.underlying5 Tryz.underlying9]
      cases A <;> rfl
  have k0 := hcv A0 n0 c0 xs l0 h0
  have k1 := hcv A1 n1 c1 ys l1 h1
  clear hcv
  go_enter Tryz.func138, Tryz.ntmps138
  go_wp2
  go_ret
  refine ⟨?_, rfl⟩
  have hxy : ((strOfNums xs).toList == (strOfNums ys).toList) = decide (xs = ys) := by
    rw [ByteArray.toList_eq, ByteArray.toList_eq, strOfNums_data, strOfNums_data, Bool.eq_iff_iff, beq_iff_eq, decide_eq_true_eq]
    constructor
    · exact byte_map_inj w0 w1
    · rintro rfl; rfl
  rw [← hxy]
  rfl
end Go.Proofs.YtdiljpdohmeceaaGreat.frame

/- append onto a row that is full (whoever owns it), or onto one of the call's own: what Join hands back. -/
namespace Go.Proofs.YtdiljpdohmeceaaGreat.joins
open Go.RowKit H O

theorem run_app_full {P : Program} (w : World) (t ty e : TypeId) (z : Value) (ht : P.underlying t = some (.slice e))
    (hI : (P.info? e).map (fun i => (i.zero, i.size, i.bytes)) = some (some z, 1, 1)) (hzs : z.cells.size = 1)
    (b : Addr) (n : Nat) (xs : List Value) (hxs : xs.length = n) (hrx : Rd w (some b) xs)
    (a : Addr) (m c : Nat) (news : List Value) (hl : news.length = m) (hrd : Rd w (some a) news) (h0 : 0 < m) (hb : n + m ≤ 140737488355328) :
    ∃ v' w', (Builtin.append_ #[t, t] ty #[.slice (some b) n n, .slice (some a) m c]).run P w = .ok v' w' ∧ w'.ownsRow 0 e 1 v' (n + m) (xs ++ news) ∧ Kp [] w w' ∧ v'.ownBlock = some w.heap.size := by
  obtain ⟨i, hi, hz, hs, hby⟩ := info_parts hI
  have g1 : ∀ j u, xs[j]? = some u → w.cell? (b.add j) = some u := by
    intro j u hu
    obtain ⟨a', ha, hc⟩ := hrx j u hu
    cases ha
    exact hc
  have g2 : ∀ j u, news[j]? = some u → w.cell? (a.add j) = some u := by
    intro j u hu
    obtain ⟨a', ha, hc⟩ := hrd j u hu
    cases ha
    exact hc
  have hr := run_append_grow (P := P) w t ty e i z ht hi hz b n n xs (by rw [hs, hxs, Nat.mul_one]) g1 a m c news (by rw [hs, hl, Nat.mul_one]) g2 (by omega) (by omega) (growslice_fits (by omega) (by rw [hby, Nat.mul_one]; exact hb))
  have hge := grownCap_ge w (n + m) n e
  have hcm : grownCap w (n + m) n e ≤ maxLen := grownCap_le_maxLen w (n + m) n e (by unfold maxLen; omega)
  have hlen : (xs ++ news).length = n + m := by rw [List.length_append, hxs, hl]
  refine ⟨_, _, hr, ⟨by rw [hlen, Nat.mul_one], .inr ⟨w.heap.size, _, _, rfl, Nat.zero_le _, heap_alloc_new w.drew _, hge, hcm, ?_, ?_⟩⟩, ?_, rfl⟩
  · simp only [Array.size_append, List.size_toArray, size_zeroCells, hzs, hxs, hl, Nat.mul_one]
    omega
  · simp only [Array.toList_append, List.append_assoc]
    rw [← List.append_assoc, Nat.mul_one, ← hlen]
    exact List.take_left
  · exact ((Kp.refl [] w).drew).alloc _

/-- What Join handed back. -/
def Jd (xs : List Int) (lo : Nat) (w' : World) (v : Value) : Prop :=
  Own 5 .u8 w' lo v xs ∨ ∃ g, v = .slice (some ⟨g, 0, none⟩) xs.length xs.length ∧ lo ≤ g ∧ g < w'.heap.size ∧ Rd w' (some ⟨g, 0, none⟩) (iv .u8 xs)
theorem Jd.lower {xs : List Int} {lo lo' : Nat} {w : World} {v : Value} (h : Jd xs lo w v) (hl : lo' ≤ lo) : Jd xs lo' w v := by
  rcases h with h | ⟨g, h1, h2, h3, h4⟩
  · exact .inl (h.lower hl)
  · exact .inr ⟨g, h1, by omega, h3, h4⟩
theorem Jd.kp {xs : List Int} {lo : Nat} {w w1 : World} {v : Value} (h : Jd xs lo w v) (k : Kp [] w w1) : Jd xs lo w1 v := by
  rcases h with h | ⟨g, h1, h2, h3, h4⟩
  · exact .inl (h.kp k (by simp))
  · exact .inr ⟨g, h1, h2, by have := k.size; omega, k.rd h4 (fun _ _ => by simp)⟩

theorem info8 : (Tryz.prog.info? 5).map (fun i => (i.zero, i.size, i.bytes)) = some (some (.int .u8 0), 1, 1) := by kernel_rfl
/-- append onto it, of one byte or more -/
theorem app_jd {w0 w : World} {ops : Array Oper} {rest : List Oper} {o : Oper} {a : Act} {Q : Exit → Act → World → Prop} (hgd : o.guard = none) (s x : Operand)
    (ho : o.op = .call { callee := .builtin .append, args := #[s, x], argTypes := #[24, 24] })
    (v : Value) (n : Nat) (xs : List Int) (hn : xs.length = n) (hs : a.eval s = v) (k0 : Kp [] w0 w) (hj : Jd xs w0.heap.size w v)
    (A : Option Addr) (m c : Nat) (news : List Int) (hx : a.eval x = .slice A m c) (hl : news.length = m) (hrd : Rd w A (iv .u8 news)) (hnil : A = none → c = 0) (h0 : 0 < m)
    (hm : n + m ≤ 140737488355328)
    (h : ∀ v' w', w'.ownsRow 0 5 1 v' (n + m) (iv .u8 (xs ++ news)) → (∀ g, v'.ownBlock = some g → w0.heap.size ≤ g) → Kp [] w0 w' →
      wpList Tryz.prog ops Q rest (a.put o.dst v') w') : wpList Tryz.prog ops Q (o :: rest) a w := by
  subst hn
  rcases hj with hj | ⟨g, rfl, h1, h2, h3⟩
  · refine clone.app8 hgd s x ho v xs.length (iv .u8 xs) hs hj.1 A m c (iv .u8 news) hx (by rw [iv_len, hl]) hrd hnil (iv_one _ _) hm ?_
    intro v' w' o' k' a'
    rw [← iv_app] at o'
    exact h v' w' o' (a'.ge k0.size (fun g hg => hj.2 g hg)) (k0.row k' (fun g hg => .inr (hj.2 g hg)))
  · obtain ⟨ad, rfl, hlt⟩ := hrd.lt (by rw [iv_len, hl]; exact h0)
    refine wpList_plain hgd fun K hK => ?_
    obtain ⟨v', w', hr, h5, h6, h7⟩ := run_app_full (P := Tryz.prog) w 24 o.type 5 (.int .u8 0) Tryz.underlying24 info8 rfl ⟨g, 0, none⟩ xs.length (iv .u8 xs) (iv_len _ _) h3 ad m c (iv .u8 news) (by rw [iv_len, hl]) hrd h0 hm
    unfold Oper.wp execOp
    simp only [ho, resolve, invoke, builtin, Sem.run_bind, Sem.run_pure, Result.andThen_ok, List.map_toArray, List.map_cons, List.map_nil, hs, hx, hr]
    rw [← iv_app] at h5
    refine hK _ _ (h v' w' h5 ?_ (k0.trans h6 (by simp)))
    intro g' hg'
    rw [h7] at hg'
    cases hg'
    exact k0.size
end Go.Proofs.YtdiljpdohmeceaaGreat.joins

/- octet.Sum and the document's Sum. -/
namespace Go.Proofs.YtdiljpdohmeceaaGreat.sum
open Go.RowKit H O

set_option maxHeartbeats 4000000 in
set_option maxRecDepth 100000 in
theorem sum_any (A : Option Addr) (n c : Nat) (l : List (List Int)) (S : List Nat) (w : World) (hn : l.length = n) (h0 : Rs S w A l) (hm : n ≤ 140737488351232) (hm2 : ∀ x ∈ l, x.length ≤ 140737488351232) (hw : ∀ x ∈ l, ∀ y ∈ x, 0 ≤ y ∧ y < 256) :
    Calls Tryz.prog 136 #[.slice A n c] w fun e w' => e = .returned (.int .u32 (crc l.flatten)) ∧ w' = w := by
  subst hn
  have H0 := As.mk h0
  have HM := As.mk hm2
  have HW := As.mk hw
  clear h0 hm2 hw
  go_enter Tryz.func136, Tryz.ntmps136
  go_wp2
  go_loop [3, 10] (fun v i => ∃ (k : Nat) (u : BitVec 32), i = .int .i64 (k : Int) ∧ v = .int .u32 (u.toNat : Int) ∧ k ≤ l.length ∧ As (u = crcF 4294967295#32 (l.take k).flatten)) (fun _ i => l.length - (intOf i).toNat)
  case atStart => exact ⟨0, 4294967295#32, rfl, rfl, by omega, ⟨rfl⟩⟩
  case round =>
    obtain ⟨k, u, rfl, rfl, hk, HU⟩ := hrel
    by_cases hlt : k < l.length
    · obtain ⟨a, Aj, cj, rfl, _, d0, _, _, hr⟩ := H0.out k hlt
      have hx := HM.out l[k] (by simp)
      have hw := HW.out l[k] (by simp)
      obtain ⟨x, hxe⟩ : ∃ x, x = l[k] := ⟨_, rfl⟩
      rw [← hxe] at d0 hr hx hw
      have HX := As.mk hxe
      have HRR := As.mk hr
      have HWW := As.mk hw
      clear hxe hr hw
      go_wp2
      go_loop [3, 16] (fun v i => ∃ (j : Nat) (t : BitVec 32), i = .int .i64 (j : Int) ∧ v = .int .u32 (t.toNat : Int) ∧ j ≤ x.length ∧ As (t = crcF u (x.take j))) (fun _ i => x.length - (intOf i).toNat)
      case atStart => exact ⟨0, u, rfl, rfl, by omega, ⟨rfl⟩⟩
      case round =>
        obtain ⟨j, t, rfl, rfl, hj, HT⟩ := hrel
        by_cases hlt2 : j < x.length
        · obtain ⟨a2, rfl, d1⟩ := HRR.out.int j hlt2
          have hc := HWW.out x[j] (by simp)
          obtain ⟨y, hy⟩ : ∃ y, y = x[j] := ⟨_, rfl⟩
          rw [← hy] at d1 hc
          have HY := As.mk hy
          clear hy
          have hy32 := As.mk (byte_bv y hc.1 hc.2)
          have hxy : bits .xor .u32 (t.toNat : Int) y = ((t ^^^ BitVec.ofInt 32 y).toNat : Int) := by rw [← xor_bv, hy32.out]
          obtain ⟨z, hz⟩ : ∃ z, z = t ^^^ BitVec.ofInt 32 y := ⟨_, rfl⟩
          rw [← hz] at hxy
          have HZ := As.mk hz
          clear hz
          go_wp2
          go_loop [3, 24] (fun v i => ∃ (m : Nat) (r : BitVec 32), i = .int .i64 (m : Int) ∧ v = .int .u32 (r.toNat : Int) ∧ m ≤ 8 ∧ As (r = sts m z)) (fun _ i => 8 - (intOf i).toNat)
          case atStart => exact ⟨0, z, rfl, rfl, by omega, ⟨rfl⟩⟩
          case round =>
            clear hxy d0 d1
            obtain ⟨m, r, rfl, rfl, hm8, HRS⟩ := hrel
            by_cases hlt3 : m < 8
            · have hst := st_walk r
              go_wp2
              go_round
              case rel => exact ⟨m + 1, st r, by go_num, rfl, by omega, ⟨by rw [HRS.out]; rfl⟩⟩
              case measure => simp [intOf]; omega
            · obtain rfl : m = 8 := by omega
              go_wp2
              go_round
              case rel => exact ⟨j + 1, r, by go_num, rfl, by omega, ⟨by rw [HRS.out, HZ.out, HT.out, take_succ' x j hlt2, crcF, crcF, List.foldl_append, ← HY.out]; rfl⟩⟩
              case measure => simp [intOf]; omega
        · go_wp2
          go_round
          case rel => exact ⟨k + 1, t, by go_num, rfl, by omega, ⟨by rw [HT.out, HU.out, List.take_of_length_le (l := x) (i := j) (by omega), HX.out, take_succ' l k hlt, List.flatten_append, crcF, crcF, crcF, List.foldl_append]; simp⟩⟩
          case measure => simp [intOf]; omega
    · have hnot : bits .xor .u32 IntKind.u32.max (u.toNat : Int) = crc l.flatten := by
        rw [not_bv, HU.out, List.take_of_length_le (l := l) (i := k) (by omega)]
        rfl
      go_wp2
      go_ret
      exact ⟨rfl, rfl⟩

set_option maxHeartbeats 4000000 in
set_option maxRecDepth 100000 in
/-- the document's -/
theorem ref_any (A : Option Addr) (n c : Nat) (x : List Int) (w : World) (hn : x.length = n) (h0 : Rd w A (iv .u8 x)) (hm : n ≤ 140737488351232) (hw : ∀ y ∈ x, 0 ≤ y ∧ y < 256) :
    Calls Tryz.prog 82 #[.slice A n c] w fun e w' => e = .returned (.int .u32 (crc x)) ∧ ∃ n, w' = w.drewN n := by
  subst hn
  have HRR := As.mk h0
  have HWW := As.mk hw
  clear h0 hw
  go_enter Tryz.func82, Tryz.ntmps82
  go_wp2
  go_loopw [3, 4] (fun v i wr => ∃ (j : Nat) (t : BitVec 32), i = .int .i64 (j : Int) ∧ v = .int .u32 (t.toNat : Int) ∧ j ≤ x.length ∧ As (t = crcF 4294967295#32 (x.take j)) ∧ ∃ n, wr = w.drewN n) (fun _ i _ => x.length - (intOf i).toNat)
  case atStart => exact ⟨0, 4294967295#32, rfl, rfl, by omega, ⟨rfl⟩, 0, rfl⟩
  case round =>
    obtain ⟨j, t, rfl, rfl, hj, HT, n, rfl⟩ := hrel
    by_cases hlt2 : j < x.length
    · obtain ⟨a2, rfl, d1⟩ := HRR.out.int j hlt2
      have hc := HWW.out x[j] (by simp)
      obtain ⟨y, hy⟩ : ∃ y, y = x[j] := ⟨_, rfl⟩
      rw [← hy] at d1 hc
      have HY := As.mk hy
      clear hy
      have hy32 := As.mk (byte_bv y hc.1 hc.2)
      have hxy : bits .xor .u32 (t.toNat : Int) y = ((t ^^^ BitVec.ofInt 32 y).toNat : Int) := by rw [← xor_bv, hy32.out]
      obtain ⟨z, hz⟩ : ∃ z, z = t ^^^ BitVec.ofInt 32 y := ⟨_, rfl⟩
      rw [← hz] at hxy
      have HZ := As.mk hz
      clear hz
      go_wp2
      try (go_quiet (fail); go_wp2)
      go_loopw [3, 5] (fun v i wr => ∃ (m : Nat) (r : BitVec 32), i = .int .i64 (m : Int) ∧ v = .int .u32 (r.toNat : Int) ∧ m ≤ 8 ∧ As (r = sts m z) ∧ ∃ n, wr = w.drewN n) (fun _ i _ => 8 - (intOf i).toNat)
      case atStart => exact ⟨0, z, rfl, rfl, by omega, ⟨rfl⟩, by first | exact ⟨_, rfl⟩ | exact ⟨_, World.drewN_drewN ..⟩⟩
      case round =>
        clear hxy d1
        obtain ⟨m, r, rfl, rfl, hm8, HRS, n2, rfl⟩ := hrel
        by_cases hlt3 : m < 8
        · by_cases hb : r.getLsbD 0 = true
          · obtain ⟨e1, e2⟩ := st_ref_one r hb
            clear hb
            go_wp2
            go_roundw
            case rel => exact ⟨m + 1, st r, by go_num, rfl, by omega, ⟨by rw [HRS.out]; rfl⟩, by first | exact ⟨_, rfl⟩ | exact ⟨_, World.drewN_drewN ..⟩⟩
            case measure => simp [intOf]; omega
          · obtain ⟨e1, e2⟩ := st_ref_zero r hb
            clear hb
            go_wp2
            go_roundw
            case rel => exact ⟨m + 1, st r, by go_num, rfl, by omega, ⟨by rw [HRS.out]; rfl⟩, by first | exact ⟨_, rfl⟩ | exact ⟨_, World.drewN_drewN ..⟩⟩
            case measure => simp [intOf]; omega
        · obtain rfl : m = 8 := by omega
          go_wp2
          go_roundw
          case rel => exact ⟨j + 1, r, by go_num, rfl, by omega, ⟨by rw [HRS.out, HZ.out, HT.out, take_succ' x j hlt2, crcF, crcF, List.foldl_append, ← HY.out]; rfl⟩, by first | exact ⟨_, rfl⟩ | exact ⟨_, World.drewN_drewN ..⟩⟩
          case measure => simp [intOf]; omega
    · have hnot : bits .xor .u32 IntKind.u32.max (t.toNat : Int) = crc x := by
        rw [not_bv, HT.out, List.take_of_length_le (l := x) (i := j) (by omega)]
        rfl
      go_wp2
      go_ret
      exact ⟨rfl, by first | exact ⟨_, rfl⟩ | exact ⟨_, World.drewN_drewN ..⟩⟩

end Go.Proofs.YtdiljpdohmeceaaGreat.sum

/- A slice of rows as a list of values; an append of rows onto a row of rows of one's own. -/
namespace Go.Proofs.YtdiljpdohmeceaaGreat.H
open Go.RowKit

/-- These values are slices that hold these rows. -/
def Vals (w : World) (vs : List Value) (l : List (List Int)) : Prop :=
  vs.length = l.length ∧ ∀ j (h : j < l.length), ∃ Aj cj, vs[j]? = some (.slice Aj l[j].length cj) ∧ l[j].length ≤ cj ∧ (Aj = none → cj = 0) ∧ Rd w Aj (iv .u8 l[j])
theorem Vals.of {w : World} {A : Option Addr} {l : List (List Int)} (h : Rs [] w A l) : ∃ vs, Vals w vs l ∧ Rd w A vs ∧ ∀ u ∈ vs, u.oneCell' = true := by
  cases A with
  | none =>
    have : l = [] := by
      cases l with
      | nil => rfl
      | cons x r => obtain ⟨a, _, _, e, _⟩ := h 0 (by simp); cases e
    subst this
    exact ⟨[], ⟨rfl, fun j hj => absurd hj (by simp)⟩, Rd.nil _ _, by simp⟩
  | some a =>
    have hc : ∀ j, j < l.length → ∃ Aj cj, (w.cell? (a.add j)).getD (.slice none 0 0) = .slice Aj l[j]!.length cj := by
      intro j hj
      obtain ⟨a', Aj, cj, e, _, hc, _⟩ := h j hj
      cases e
      exact ⟨Aj, cj, by rw [hc]; simp [hj]⟩
    refine ⟨(List.range l.length).map fun j => (w.cell? (a.add j)).getD (.slice none 0 0), ⟨by simp, ?_⟩, ?_, ?_⟩
    · intro j hj
      obtain ⟨a', Aj, cj, e, _, hcj, h1, h2, h3⟩ := h j hj
      cases e
      exact ⟨Aj, cj, by simp [hj, hcj], h1, h2, h3.rd⟩
    · intro j v hv
      have hj : j < l.length := by have := (List.getElem?_eq_some_iff.1 hv).1; simpa using this
      obtain ⟨a', Aj, cj, e, _, hcj, _⟩ := h j hj
      cases e
      refine ⟨a, rfl, ?_⟩
      rw [← hv]
      simp [hj, hcj]
    · intro u hu
      obtain ⟨j, hj, rfl⟩ := List.mem_map.1 hu
      obtain ⟨Aj, cj, e⟩ := hc j (by simpa using hj)
      rw [e]
      rfl
theorem Vals.rs {w : World} {A : Option Addr} {vs : List Value} {l : List (List Int)} (h : Vals w vs l) (hr : Rd w A vs) : Rs [] w A l := by
  intro j hj
  obtain ⟨Aj, cj, hv, h1, h2, h3⟩ := h.2 j hj
  obtain ⟨a, rfl, hc⟩ := hr j _ hv
  exact ⟨a, Aj, cj, rfl, by simp, hc, h1, h2, RdS.new h3 (Kp.refl _ _) (by simp)⟩
theorem Vals.kp {w w1 : World} {vs : List Value} {l : List (List Int)} (h : Vals w vs l) (k : Kp [] w w1) : Vals w1 vs l := by
  refine ⟨h.1, fun j hj => ?_⟩
  obtain ⟨Aj, cj, hv, h1, h2, h3⟩ := h.2 j hj
  exact ⟨Aj, cj, hv, h1, h2, k.rd h3 (fun _ _ => by simp)⟩
theorem Vals.app {w : World} {vs us : List Value} {l r : List (List Int)} (h : Vals w vs l) (k : Vals w us r) : Vals w (vs ++ us) (l ++ r) := by
  refine ⟨by rw [List.length_append, List.length_append, h.1, k.1], fun j hj => ?_⟩
  by_cases hjl : j < l.length
  · obtain ⟨Aj, cj, hv, h1, h2, h3⟩ := h.2 j hjl
    refine ⟨Aj, cj, ?_, ?_, h2, ?_⟩
    · rw [List.getElem?_append_left (by rw [h.1]; exact hjl), hv, List.getElem_append_left hjl]
    · rw [List.getElem_append_left hjl]; exact h1
    · rw [List.getElem_append_left hjl]; exact h3
  · have hj2 : j - l.length < r.length := by rw [List.length_append] at hj; omega
    obtain ⟨Aj, cj, hv, h1, h2, h3⟩ := k.2 (j - l.length) hj2
    refine ⟨Aj, cj, ?_, ?_, h2, ?_⟩
    · rw [List.getElem?_append_right (by rw [h.1]; omega), h.1, hv, List.getElem_append_right (by omega)]
    · rw [List.getElem_append_right (by omega)]; exact h1
    · rw [List.getElem_append_right (by omega)]; exact h3
theorem Vals.nil (w : World) : Vals w [] [] := ⟨rfl, fun j hj => absurd hj (by simp)⟩

theorem info_rows : (Tryz.prog.info? 24).map (fun i => (i.zero, i.size, i.bytes)) = some (some (.slice none 0 0), 1, 24) := by kernel_rfl
/-- append of rows -/
theorem appR {w : World} {ops : Array Oper} {rest : List Oper} {o : Oper} {a : Act} {Q : Exit → Act → World → Prop} (hgd : o.guard = none) (s x : Operand)
    (ho : o.op = .call { callee := .builtin .append, args := #[s, x], argTypes := #[23, 23] })
    (v : Value) (n : Nat) (xs : List Value) (hs : a.eval s = v) (hown : w.ownsRow 0 24 1 v n xs)
    (A : Option Addr) (m c : Nat) (news : List Value) (hx : a.eval x = .slice A m c) (hl : news.length = m) (hrd : Rd w A news) (hnil : A = none → c = 0) (h1 : ∀ u ∈ news, u.oneCell' = true)
    (hm : n + m ≤ 1000000)
    (h : ∀ v' w', w'.ownsRow 0 24 1 v' (n + m) (xs ++ news) → Kp v.ownBlock.toList w w' → At w.heap.size v.ownBlock v'.ownBlock →
      wpList Tryz.prog ops Q rest (a.put o.dst v') w') : wpList Tryz.prog ops Q (o :: rest) a w :=
  wpList_app hgd s x 23 ho 24 (.slice none 0 0) 1 24 Tryz.underlying23 info_rows rfl (by decide) v n xs hs hown A m c news hx (by rw [hl, Nat.mul_one]) hrd hnil h1 (by omega) (by omega)
    (fun v' w' h1 h2 h3 _ => h v' w' h1 h2 h3)

end Go.Proofs.YtdiljpdohmeceaaGreat.H

/- frame.headOf, frame.Encode. -/
namespace Go.Proofs.YtdiljpdohmeceaaGreat.frame
open Go.RowKit H O joins

theorem rs_pair {w : World} {A3 A4 : Option Addr} {n3 c3 n4 c4 : Nat} {xs ys : List Int} (h3 : xs.length = n3) (h4 : ys.length = n4) (r3 : Rd w A3 (iv .u8 xs)) (r4 : Rd w A4 (iv .u8 ys)) (l3 : n3 ≤ c3) (l4 : n4 ≤ c4) (e3 : A3 = none → c3 = 0) (e4 : A4 = none → c4 = 0) (u : TypeId) :
    Rs [] (w.alloc (.cells #[.slice A3 n3 c3, .slice A4 n4 c4] u)) (some ⟨w.heap.size, 0, none⟩) [xs, ys] := by
  subst h3 h4
  have k := (Kp.refl [] w).alloc (.cells #[.slice A3 xs.length c3, .slice A4 ys.length c4] u)
  refine Vals.rs (vs := [.slice A3 xs.length c3, .slice A4 ys.length c4]) ⟨rfl, fun j hj => ?_⟩ (rd_new w [.slice A3 xs.length c3, .slice A4 ys.length c4] u)
  match j, hj with
  | 0, _ => exact ⟨A3, c3, rfl, l3, e3, k.rd r3 (fun _ _ => by simp)⟩
  | 1, _ => exact ⟨A4, c4, rfl, l4, e4, k.rd r4 (fun _ _ => by simp)⟩
/-- two rows joined: ahead of it stands a world since which nothing has turned -/
theorem join_pair {w0 w : World} {A3 A4 : Option Addr} {n3 c3 n4 c4 : Nat} {xs ys : List Int} (k0 : Kp [] w0 w) (h3 : xs.length = n3) (h4 : ys.length = n4) (r3 : Rd w A3 (iv .u8 xs)) (r4 : Rd w A4 (iv .u8 ys)) (l3 : n3 ≤ c3) (l4 : n4 ≤ c4) (e3 : A3 = none → c3 = 0) (e4 : A4 = none → c4 = 0)
    (w3 : Wf xs) (w4 : Wf ys) (hb : n3 + n4 ≤ 140737488351232) :
    Calls Tryz.prog 133 #[.slice (some ⟨w.heap.size, 0, none⟩) 2 2] (w.alloc (.cells #[.slice A3 n3 c3, .slice A4 n4 c4] 24)) fun e w' => ∃ A c, e = .returned (.slice A (n3 + n4) c) ∧ Kp [] w0 w' ∧ Jd (xs ++ ys) w0.heap.size w' (.slice A (n3 + n4) c) ∧ Rd w' A (iv .u8 (xs ++ ys)) ∧ n3 + n4 ≤ c ∧ c ≤ 9223372036854775807 ∧ (A = none → c = 0) := by
  have h := joins.ojoin_any (some ⟨w.heap.size, 0, none⟩) 2 2 [xs, ys] _ rfl (rs_pair h3 h4 r3 r4 l3 l4 e3 e4 24) (Nat.le_refl _) (by
    intro x hx
    simp only [List.mem_cons, List.not_mem_nil, or_false] at hx
    rcases hx with rfl | rfl
    · exact w3
    · exact w4) (by simp; omega) (by decide)
  rw [show [xs, ys].flatten = xs ++ ys from by simp] at h
  refine h.mono ?_
  rintro e w' ⟨v, rfl, K, O⟩
  obtain ⟨A, c, rfl, h1, h2, h5, h6⟩ := joins.post_rd O (n3 + n4) (by rw [List.length_append, h3, h4]) (by omega)
  have hk := k0.alloc (.cells #[.slice A3 n3 c3, .slice A4 n4 c4] 24)
  exact ⟨A, c, rfl, hk.trans K (by simp), (Jd.lower O hk.size), h5, h1, h2, h6⟩
theorem sum_one {w : World} {A : Option Addr} {n c : Nat} {xs : List Int} (hn : xs.length = n) (hr : Rd w A (iv .u8 xs)) (hc : n ≤ c) (hnil : A = none → c = 0) (hw : Wf xs) (hm : n ≤ 140737488351232) :
    Calls Tryz.prog 136 #[.slice (some ⟨w.heap.size, 0, none⟩) 1 1] (w.alloc (.cells #[.slice A n c] 24)) fun e w' => e = .returned (.int .u32 (crc xs)) ∧ w' = w.alloc (.cells #[.slice A n c] 24) := by
  have h := sum.sum_any (some ⟨w.heap.size, 0, none⟩) 1 1 [xs] [] _ rfl (rs_cell w A xs n c hn hc hnil 24 (RdS.new hr (Kp.refl _ _) (by simp)) (by simp)) (by decide) (by intro x hx; simp only [List.mem_singleton] at hx; subst hx; omega) (by intro x hx; simp only [List.mem_singleton] at hx; subst hx; exact hw)
  rwa [show [xs].flatten = xs from by simp] at h
theorem four_rd (v : Int) (w : World) (h0 : 0 ≤ v) (h1 : v < 4294967296) : Calls Tryz.prog 135 #[.int .u32 v] w fun e w' => ∃ A, e = .returned (.slice A 4 4) ∧ Rd w' A (iv .u8 (four v)) ∧ Kp [] w w' ∧ (A = none → 4 = 0) := by
  refine (four_any v w h0 h1).mono ?_
  rintro e w' ⟨rfl, rfl⟩
  exact ⟨_, rfl, rd_new w _ _, (Kp.refl [] w).alloc _, by simp⟩

set_option maxHeartbeats 4000000 in
-- PART H
theorem head_any (v : Int) (w : World) (h0 : 0 ≤ v) (h1 : v < 4294967296) : Calls Tryz.prog 134 #[.int .u32 v] w fun e w' => ∃ A c, e = .returned (.slice A 8 c) ∧ Kp [] w w' ∧ Rd w' A (iv .u8 (head v)) ∧ 8 ≤ c ∧ c ≤ 9223372036854775807 ∧ (A = none → c = 0) := by
  have HF := As.mk (fun wX => four_rd v wX h0 h1)
  have HF1 := As.mk (HF.out w)
  obtain ⟨s, hs⟩ : ∃ s, s = crc (four v) := ⟨_, rfl⟩
  have HS := As.mk hs
  have HSB : As (0 ≤ s ∧ s < 4294967296) := ⟨by rw [hs]; exact crc_le _⟩
  clear hs h0 h1
  go_enter Tryz.func134, Tryz.ntmps134
  go_wp2_with (first
    | (go_at_call 133; refine HJ.out.mono ?_; rintro e w6 ⟨A6, c6, rfl, k6, -, r6, h6, h6', n6⟩; have HR6 := As.mk r6; have HK6 := As.mk k6; clear r6 k6)
    | (go_at_call 135; refine HF3.out.mono ?_; rintro e w5 ⟨A5, rfl, r5, k5, n5⟩; have HJ := As.mk (join_pair (HK3.out.trans k5 (by simp)) (four_len v) (four_len s) (k5.rd HR3.out (fun _ _ => by simp)) r5 (Nat.le_refl _) (Nat.le_refl _) HN1.out n5 (four_wf v) (four_wf s) (by decide)); clear r5 k5 n5 HF3 HK3)
    | (go_at_call 136; refine HSM.out.mono ?_; rintro e w3 ⟨rfl, hw3⟩; have HK3 : As (Kp [] w w3) := ⟨by rw [hw3]; exact HK2.out.alloc _⟩; have HR3 := As.mk (hw3 ▸ ((Kp.refl [] w2).alloc _).rd HR12.out (fun _ _ => by simp)); rw [← HS.out]; have HF3 := As.mk (four_rd s w3 HSB.out.1 HSB.out.2); clear hw3 HSM HK2)
    | (go_at_call 135; refine HF2.out.mono ?_; rintro e w2 ⟨A2, rfl, r2, k2, n2⟩; have HK2 : As (Kp [] w w2) := ⟨HK1.out.trans k2 (by simp)⟩; have HR12 := As.mk (k2.rd HR1.out (fun _ _ => by simp)); have HSM := As.mk (sum_one (four_len v) r2 (Nat.le_refl _) n2 (four_wf v) (by decide)); clear r2 k2 n2 HF2)
    | (go_at_call 135; refine HF1.out.mono ?_; rintro e w1 ⟨A1, rfl, r1, k1, n1⟩; have HK1 := As.mk k1; have HR1 := As.mk r1; have HN1 := As.mk n1; have HF2 := As.mk (HF.out w1); clear r1 k1 n1 HF1 HF))
  go_ret
  rw [HS.out] at HR6
  exact ⟨A6, c6, rfl, HK6.out, HR6.out, h6, h6', n6⟩
-- END H

/-- behind Encode -/
def FEnc (p : List Int) (w : World) (e : Ending) (w' : World) : Prop :=
  ∃ A c, e = .returned (.tuple #[.slice A (p.length + 12) c, .int .i64 0]) ∧ Kp [] w w' ∧ Jd (fEnc p) w.heap.size w' (.slice A (p.length + 12) c) ∧ Rd w' A (iv .u8 (fEnc p)) ∧ p.length + 12 ≤ c ∧ c ≤ 9223372036854775807 ∧ (A = none → c = 0)

set_option maxHeartbeats 4000000 in
set_option maxRecDepth 100000 in
theorem enc_any (A : Option Addr) (n c : Nat) (l : List (List Int)) (w : World) (hn : l.length = n) (hr : Rs [] w A l) (hc : n ≤ c) (hw : ∀ x ∈ l, Wf x) (hb : l.flatten.length ≤ 1000000) (hm : n ≤ 140737488351232) :
    Calls Tryz.prog 127 #[.slice A n c] w (FEnc l.flatten w) := by
  obtain ⟨p, hp⟩ : ∃ p, p = l.flatten := ⟨_, rfl⟩
  obtain ⟨T, hT⟩ : ∃ T, p.length = T := ⟨_, rfl⟩
  have hwp : Wf p := by
    rw [hp]
    intro x hx
    obtain ⟨y, hy, hx⟩ := List.mem_flatten.1 hx
    exact hw y hy x hx
  have HJP : As (∀ wX, Kp [] w wX → Calls Tryz.prog 133 #[.slice A n c] wX fun e w' => ∃ A1 c1, e = .returned (.slice A1 T c1) ∧ Kp [] wX w' ∧ Rd w' A1 (iv .u8 p) ∧ T ≤ c1 ∧ c1 ≤ 9223372036854775807 ∧ (A1 = none → c1 = 0)) := ⟨fun wX k => by
    refine (joins.ojoin_any A n c l wX hn (hr.kp k (by simp)) hc hw (by omega) hm).mono ?_
    rintro e w' ⟨v, rfl, K, O⟩
    rw [← hp] at O
    obtain ⟨A1, c1, rfl, h1, h2, h3, h4⟩ := joins.post_rd O T hT (by rw [← hT, hp]; omega)
    exact ⟨A1, c1, rfl, K, h3, h1, h2, h4⟩⟩
  rw [← hp] at hb ⊢
  rw [hT] at hb
  obtain ⟨b, hbb⟩ : ∃ b, b = head T ++ p := ⟨_, rfl⟩
  obtain ⟨B, hB⟩ : ∃ B, b.length = B := ⟨_, rfl⟩
  have hBT : B = 8 + T := by rw [← hB, hbb, List.length_append, head_len, hT]
  have hwb : Wf b := by rw [hbb]; exact wf_app (head_wf _) hwp
  obtain ⟨s, hs⟩ : ∃ s, s = crc b := ⟨_, rfl⟩
  have HSB : As (0 ≤ s ∧ s < 4294967296) := ⟨by rw [hs]; exact crc_le _⟩
  have HFE : As (b ++ four s = fEnc p) := ⟨by rw [fEnc, hT, ← hbb, hs]⟩
  have HR := As.mk hr
  have HP := As.mk hp
  have HT := As.mk hT
  have HB := As.mk hB
  have HBB := As.mk hbb
  have HBT := As.mk hBT
  have HWP := As.mk hwp
  have HWB := As.mk hwb
  have HS := As.mk hs
  have HL := As.mk hn
  clear hn hr hw hp hT hB hbb hBT hwp hwb hs
  go_enter Tryz.func127, Tryz.ntmps127
  go_wp2
  go_loopw [4, 10] (fun s i wr => ∃ k : Nat, i = .int .i64 (k : Int) ∧ k ≤ n ∧ s = .int .i64 (((l.take k).flatten.length : Nat) : Int) ∧ As (wr = w)) (fun _ i _ => n - (intOf i).toNat)
  case atStart => exact ⟨0, rfl, by omega, rfl, ⟨rfl⟩⟩
  case round =>
    obtain ⟨k, rfl, hk, rfl, ⟨rfl⟩⟩ := hrel
    by_cases hlt : k < n
    · have hlx : k < l.length := by rw [HL.out]; exact hlt
      obtain ⟨a, Aj, cj, rfl, _, d0, hcj, _, _⟩ := HR.out k hlx
      have hfs := congrArg List.length (joins.flat_step l k hlx)
      have hfl := joins.flat_le l (k + 1)
      rw [← HP.out, HT.out] at hfl
      rw [List.length_append] at hfs
      obtain ⟨len, hlen⟩ : ∃ len, l[k].length = len := ⟨_, rfl⟩
      obtain ⟨acc, hacc⟩ : ∃ acc, (l.take k).flatten.length = acc := ⟨_, rfl⟩
      obtain ⟨acc', hacc'⟩ : ∃ acc', (l.take (k + 1)).flatten.length = acc' := ⟨_, rfl⟩
      rw [hlen] at d0 hcj hfs
      rw [hacc, hacc'] at hfs
      rw [hacc'] at hfl
      rw [hacc]
      have HA' := As.mk hacc'
      have HFS := As.mk hfs
      have HFL : acc + len ≤ T := by omega
      clear hfs hfl hlen hacc hacc'
      go_wp2
      go_roundw
      case rel => exact ⟨k + 1, by go_num, by omega, by rw [HA'.out, HFS.out]; go_num, ⟨trivial⟩⟩
      case measure => simp [intOf]; omega
    · obtain rfl : k = n := by omega
      have hall : (l.take k).flatten.length = T := by rw [List.take_of_length_le (by rw [HL.out]; exact Nat.le_refl _), ← HP.out, HT.out]
      rw [hall]
      clear hall
      have hT32 : (T : Int) % 4294967296 = T := by omega
      have hwT : IntKind.u32.wrap (T : Int) = T := by rw [IntKind.wrap_u32]; exact hT32
      have HHD := As.mk (head_any (T : Int) wr (by omega) (by omega))
      go_wp2_with (first
        | (go_at_call 134; refine HHD.out.mono ?_; rintro e w1 ⟨A1, c1, rfl, k1, r1, h1, h1', n1⟩; have HK1 := As.mk k1; have HR1 := As.mk r1; have HN1 := As.mk n1; have HJ1 := As.mk (HJP.out w1 k1); clear r1 k1 n1 HHD))
      go_wp2_with (go_at_call 133; refine HJ1.out.mono ?_; rintro e w2 ⟨A2, c2, rfl, k2, r2, h2, h2', n2⟩; have HJ2 := As.mk (join_pair (HK1.out.trans k2 (by simp)) (head_len (T : Int)) HT.out (k2.rd HR1.out (fun _ _ => by simp)) r2 h1 h2 HN1.out n2 (head_wf _) HWP.out (by omega)); rw [← HBB.out, ← HBT.out] at HJ2; clear k2 r2 n2 HJ1)
      go_wp2_with (go_at_call 133; refine HJ2.out.mono ?_; rintro e w3 ⟨A3, c3, rfl, k3, -, r3, h3, h3', n3⟩; have HK3 := As.mk k3; have HR3 := As.mk r3; have HN3 := As.mk n3; have HSM := As.mk (sum_one HB.out r3 h3 n3 HWB.out (by have := HBT.out; omega)); rw [← HS.out] at HSM; clear k3 r3 n3 HJ2)
      go_wp2_with (first
        | (go_at_call 136; refine HSM.out.mono ?_; rintro e w4 ⟨rfl, hw4⟩; have HK4 : As (Kp [] wr w4) := ⟨by rw [hw4]; exact HK3.out.alloc _⟩; have HR4 := As.mk (hw4 ▸ ((Kp.refl [] w3).alloc _).rd HR3.out (fun _ _ => by simp)); have HF4 := As.mk (four_rd s w4 HSB.out.1 HSB.out.2); clear hw4 HSM)
        | (go_at_call 135; refine HF4.out.mono ?_; rintro e w5 ⟨A5, rfl, r5, k5, n5⟩; have HJ3 := As.mk (join_pair (HK4.out.trans k5 (by simp)) HB.out (four_len s) (k5.rd HR4.out (fun _ _ => by simp)) r5 h3 (Nat.le_refl _) HN3.out n5 HWB.out (four_wf s) (by have := HBT.out; omega)); rw [HFE.out] at HJ3; clear r5 k5 n5 HF4)
        | (go_at_call 133; refine HJ3.out.mono ?_; rintro e w6 ⟨A6, c6, rfl, k6, j6, r6, h6, h6', n6⟩; have HJD := As.mk j6; have HR6 := As.mk r6; have HK6 := As.mk k6; have HN6 := As.mk n6; clear r6 k6 j6 n6 HJ3))
      go_ret2
      have e12 : p.length + 12 = B + 4 := by rw [HT.out, HBT.out]; omega
      unfold FEnc
      rw [e12]
      exact ⟨A6, c6, rfl, HK6.out, HJD.out, HR6.out, h6, h6', HN6.out⟩
end Go.Proofs.YtdiljpdohmeceaaGreat.frame

/- b[p:] and b[:h]: what they give, as rules for the walk. -/
namespace Go.Proofs.YtdiljpdohmeceaaGreat.H
open Go.RowKit

theorem el1 (T E : TypeId) (h : Tryz.prog.elem T = E) (hs : (Tryz.prog.info? E).map (·.size) = some 1) (hc : Tryz.prog.cellsOf E = 1) : ∀ w, (Go.sizeOf (Tryz.prog.elem T)).run Tryz.prog w = .ok 1 w := fun w => by
  obtain ⟨i, hi, _⟩ := Option.map_eq_some_iff.1 hs
  rw [h, run_sizeOf w hi, hc]
/-- b[p:] -/
theorem slice_tail {T : TypeId} (ht : Tryz.prog.underlying T = some (.slice (Tryz.prog.elem T))) (hz : ∀ w, (Go.sizeOf (Tryz.prog.elem T)).run Tryz.prog w = .ok 1 w) (a : Addr) (n c p : Nat) (hb : p ≤ n) (hc : n ≤ c) :
    ∃ a2 : Addr, (∀ W, (Instr.slice T (.slice (some a) n c) (some (.int .i64 (p : Int))) none none).run Tryz.prog W = .ok (.slice (some a2) (n - p) (c - p)) W) ∧ ∀ w vs, vs.length = n → Rd w (some a) vs → Rd w (some a2) (vs.drop p) := by
  refine ⟨cutAt a c p, fun W => ?_, fun w vs hl hr => hr.cut (by omega)⟩
  rw [run_slice_l W _ _ _ _ ht .i64 _ (by omega) (by omega), hz]
  simp only [Result.andThen, sliced, Int.toNat_natCast, Nat.mul_one, Option.map_some, cutAt]
  split <;> rfl
/-- b[:h] -/
theorem slice_head {T : TypeId} (ht : Tryz.prog.underlying T = some (.slice (Tryz.prog.elem T))) (hz : ∀ w, (Go.sizeOf (Tryz.prog.elem T)).run Tryz.prog w = .ok 1 w) (a : Option Addr) (n c h : Nat) (hc : h ≤ c) (hn : a = none → c = 0) :
    ∀ W, (Instr.slice T (.slice a n c) none (some (.int .i64 (h : Int))) none).run Tryz.prog W = .ok (.slice a h c) W := fun W => by
  rw [run_slice_h W _ _ _ _ ht .i64 _ (by omega) (by omega), hz]
  simp only [Result.andThen, sliced, Int.toNat_natCast, Nat.sub_zero]
  split
  · rfl
  · cases a with
    | none => rfl
    | some a => simp [add_zero']
/-- b[p:h] -/
theorem slice_mid {T : TypeId} (ht : Tryz.prog.underlying T = some (.slice (Tryz.prog.elem T))) (hz : ∀ w, (Go.sizeOf (Tryz.prog.elem T)).run Tryz.prog w = .ok 1 w) (b o n c p h : Nat) (hp : p ≤ h) (hh : h ≤ c) (hc : c ≠ p) :
    ∀ W, (Instr.slice T (.slice (some ⟨b, o, none⟩) n c) (some (.int .i64 (p : Int))) (some (.int .i64 (h : Int))) none).run Tryz.prog W = .ok (.slice (some ⟨b, o + p, none⟩) (h - p) (c - p)) W := fun W => by
  rw [run_slice_lh W _ _ _ _ ht .i64 .i64 _ _ (by omega) (by omega) (by omega), hz]
  simp only [Result.andThen, sliced, Int.toNat_natCast, Nat.mul_one, Option.map_some, if_neg hc]
  rw [Go.WideShapes.add_plain]
theorem ht8 : Tryz.prog.underlying 24 = some (.slice (Tryz.prog.elem 24)) := by kernel_rfl
theorem hz8 : ∀ w, (Go.sizeOf (Tryz.prog.elem 24)).run Tryz.prog w = .ok 1 w := el1 _ 5 (by kernel_rfl) (by kernel_rfl) (by kernel_rfl)
theorem htR : Tryz.prog.underlying 23 = some (.slice (Tryz.prog.elem 23)) := by kernel_rfl
theorem hzR : ∀ w, (Go.sizeOf (Tryz.prog.elem 23)).run Tryz.prog w = .ok 1 w := el1 _ 24 (by kernel_rfl) (by kernel_rfl) (by kernel_rfl)
theorem htI : Tryz.prog.underlying 53 = some (.slice (Tryz.prog.elem 53)) := by kernel_rfl
theorem hzI : ∀ w, (Go.sizeOf (Tryz.prog.elem 53)).run Tryz.prog w = .ok 1 w := el1 _ 3 (by kernel_rfl) (by kernel_rfl) (by kernel_rfl)
end Go.Proofs.YtdiljpdohmeceaaGreat.H

/- frame.Decode. -/
namespace Go.Proofs.YtdiljpdohmeceaaGreat.frame
open Go.RowKit H O joins

/-- behind Decode -/
def FDec (xs : List Int) (w : World) (e : Ending) (w' : World) : Prop :=
  ∃ v, e = .returned (.tuple #[v, .int .i64 (((fDec xs).2.1 : Nat) : Int), .int .i64 (fDec xs).2.2]) ∧ Own 5 .u8 w' w.heap.size v (fDec xs).1 ∧ Kp [] w w'
theorem fdec_none {xs : List Int} {w w' : World} {z : Int} (h : fDec xs = ([], 0, z)) (k : Kp [] w w') : FDec xs w (.returned (.tuple #[.slice none 0 0, .int .i64 0, .int .i64 z])) w' := by
  refine ⟨_, by rw [h]; rfl, ?_, k⟩
  rw [h]
  exact Own.nil _ _ _ _

set_option maxHeartbeats 4000000 in
set_option maxRecDepth 100000 in
theorem dec_any (A : Option Addr) (n c : Nat) (xs : List Int) (w : World) (hn : xs.length = n) (hr : Rd w A (iv .u8 xs)) (hc : n ≤ c) (hw : Wf xs) (hm : n ≤ 140737488351232) :
    Calls Tryz.prog 128 #[.slice A n c] w (FDec xs w) := by
  by_cases h8 : n < 8
  · have HE : As (fDec xs = ([], 0, 2)) := ⟨by rw [fDec, if_pos (by omega)]⟩
    clear hr hw hn
    go_enter Tryz.func128, Tryz.ntmps128
    go_wp2
    go_ret3
    exact fdec_none HE.out (Kp.refl _ _)
  · obtain ⟨a, rfl, d9⟩ := hr.int 0 (by omega)
    obtain ⟨b0, o0, sp⟩ := a
    obtain rfl : sp = none := by simpa [Addr.add] using World.cell?_spot d9
    clear d9
    obtain ⟨N, hN⟩ : ∃ N : Nat, (unf xs) = (N : Int) := Int.eq_ofNat_of_zero_le (unf_le hw).1
    have hN32 := (unf_le hw).2
    rw [hN] at hN32
    have HF := As.mk (from_any (some ⟨b0, o0, none⟩) n c xs w hn hr hw (by omega))
    rw [hN] at HF
    have HHD : As (∀ wX, _) := ⟨fun wX => head_any (N : Int) wX (by omega) hN32⟩
    have hsl8 : ∀ W, (Instr.slice 24 (.slice (some ⟨b0, o0, none⟩) n c) none (some (.int .i64 8)) none).run Tryz.prog W = .ok (.slice (some ⟨b0, o0, none⟩) 8 c) W := slice_head ht8 hz8 (some ⟨b0, o0, none⟩) n c 8 (by omega) (by simp)
    have HEQ : As (∀ (A1 : Option Addr) (c1 : Nat) (wX : World), Kp [] w wX → Rd wX A1 (iv .u8 (head N)) → Calls Tryz.prog 138 #[.slice (some ⟨b0, o0, none⟩) 8 c, .slice A1 8 c1] wX fun e w' => e = .returned (.bool (decide (xs.take 8 = head N))) ∧ w' = wX) := ⟨fun A1 c1 wX k r1 => by
      refine equal_any (some ⟨b0, o0, none⟩) A1 8 c 8 c1 (xs.take 8) (head N) wX (by rw [List.length_take]; omega) (head_len _) ?_ r1 (hw.take 8) (head_wf _)
      have h := (k.rd_new hr (by simp)).take 8
      rwa [iv_take] at h⟩
    have hw32 : IntKind.u32.wrap (N : Int) = N := by rw [IntKind.wrap_u32]; omega
    have hw64 : IntKind.i64.wrap (N : Int) = N := by rw [IntKind.wrap_i64]; omega
    have HN32 := As.mk hN32
    clear hN32
    by_cases hh : xs.take 8 = head N
    · have hd1 : decide (xs.take 8 = head N) = true := decide_eq_true hh
      rw [hd1] at HEQ
      by_cases hbig : 1048576 < N
      · have HE : As (fDec xs = ([], 0, 5)) := ⟨by rw [fDec, if_neg (by omega), hN, if_neg (by simpa using hh), if_pos (by omega)]⟩
        clear hr hw hn hN hh hd1
        go_enter Tryz.func128, Tryz.ntmps128
        go_wp2_with (go_at_call 137; refine HF.out.mono ?_; rintro e w1 ⟨rfl, n1, hw1⟩; have HK1 : As (Kp [] w w1) := ⟨by rw [hw1]; exact (Kp.refl [] w).drewN _⟩; clear hw1 HF)
        go_region_held3 (fun w' => True) (exact trivial) (first
          | (go_at_call 138; refine (HEQ.out _ _ _ HK2.out HR2.out).mono ?_; rintro e w3 ⟨rfl, hw3⟩; have HK3 : As (Kp [] w w3) := ⟨by rw [hw3]; exact HK2.out⟩; clear hw3)
          | (go_at_call 134; refine (HHD.out _).mono ?_; rintro e w2 ⟨A2, c2, rfl, k2, r2, h2, h2', n2⟩; have HK2 : As (Kp [] w w2) := ⟨(HK1.out.drew).trans k2 (by simp)⟩; have HR2 := As.mk r2; clear k2 r2 n2))
        clear HHD HEQ
        go_wp2
        go_ret3
        exact fdec_none HE.out HK3.out
      · by_cases hsh : n < 12 + N
        · have HE : As (fDec xs = ([], 0, 2)) := ⟨by rw [fDec, if_neg (by omega), hN, if_neg (by simpa using hh), if_neg (by omega), if_pos (by omega)]⟩
          have hsh' : (n : Int) - 8 - 4 < (N : Int) := by omega
          clear hr hw hn hN hh hd1
          go_enter Tryz.func128, Tryz.ntmps128
          go_wp2_with (go_at_call 137; refine HF.out.mono ?_; rintro e w1 ⟨rfl, n1, hw1⟩; have HK1 : As (Kp [] w w1) := ⟨by rw [hw1]; exact (Kp.refl [] w).drewN _⟩; clear hw1 HF)
          go_region_held3 (fun w' => True) (exact trivial) (first
            | (go_at_call 138; refine (HEQ.out _ _ _ HK2.out HR2.out).mono ?_; rintro e w3 ⟨rfl, hw3⟩; have HK3 : As (Kp [] w w3) := ⟨by rw [hw3]; exact HK2.out⟩; clear hw3)
            | (go_at_call 134; refine (HHD.out _).mono ?_; rintro e w2 ⟨A2, c2, rfl, k2, r2, h2, h2', n2⟩; have HK2 : As (Kp [] w w2) := ⟨(HK1.out.drew).trans k2 (by simp)⟩; have HR2 := As.mk r2; clear k2 r2 n2))
          clear HHD HEQ
          go_wp2
          go_ret3
          exact fdec_none HE.out HK3.out
        · have hsh' : ¬ ((n : Int) - 8 - 4 < (N : Int)) := by omega
          obtain ⟨M, hM⟩ : ∃ M, M = 8 + N := ⟨_, rfl⟩
          have hMi : (8 : Int) + (N : Int) = (M : Int) := by omega
          have hslM : ∀ W, (Instr.slice 24 (.slice (some ⟨b0, o0, none⟩) n c) none (some (.int .i64 (M : Int))) none).run Tryz.prog W = .ok (.slice (some ⟨b0, o0, none⟩) M c) W := slice_head ht8 hz8 (some ⟨b0, o0, none⟩) n c M (by omega) (by simp)
          obtain ⟨a2, hsl2, hrd2⟩ := slice_tail ht8 hz8 ⟨b0, o0, none⟩ n c M (by omega) hc
          obtain ⟨n2, hn2⟩ : ∃ n2, n - M = n2 := ⟨_, rfl⟩
          obtain ⟨c2', hc2⟩ : ∃ c2, c - M = c2 := ⟨_, rfl⟩
          have hN3 : M - 8 = N := by omega
          rw [hn2, hc2] at hsl2
          obtain ⟨z1, hz1⟩ : ∃ z, unf (xs.drop M) = z := ⟨_, rfl⟩
          obtain ⟨z2, hz2⟩ : ∃ z, crc (xs.take M) = z := ⟨_, rfl⟩
          have HF2 : As (∀ wX, Kp [] w wX → Calls Tryz.prog 137 #[.slice (some a2) n2 c2'] wX fun e w' => e = .returned (.int .u32 z1) ∧ Kp [] w w') := ⟨fun wX k => by
            have h := hrd2 wX (iv .u8 xs) (by rw [iv_len, hn]) (k.rd_new hr (by simp))
            rw [iv_drop] at h
            refine (from_any (some a2) n2 c2' (xs.drop M) wX (by rw [List.length_drop]; omega) h (hw.drop M) (by omega)).mono ?_
            rintro e w' ⟨rfl, nk, rfl⟩
            exact ⟨by rw [hz1], k.drewN _⟩⟩
          have HTK : As (∀ wX, Kp [] w wX → Rd wX (some ⟨b0, o0, none⟩) (iv .u8 (xs.take M))) := ⟨fun wX k => by
            have h := (k.rd_new hr (by simp)).take M
            rwa [iv_take] at h⟩
          have hlM : (xs.take M).length = M := by rw [List.length_take]; omega
          have hwM := hw.take M
          have HSM : As (∀ wX, Kp [] w wX → Calls Tryz.prog 136 #[.slice (some ⟨wX.heap.size, 0, none⟩) 1 1] (wX.alloc (.cells #[.slice (some ⟨b0, o0, none⟩) M c] 24)) fun e w' => e = .returned (.int .u32 z2) ∧ Kp [] w w') := ⟨fun wX k => by
            refine (sum_one hlM (HTK.out wX k) (by omega) (by simp) hwM (by omega)).mono ?_
            rintro e w' ⟨rfl, rfl⟩
            exact ⟨by rw [hz2], k.alloc _⟩⟩
          have hcnt : 12 + N = M + 4 := by omega
          by_cases hz : z1 = z2
          · have HE : As (fDec xs = ((xs.take M).drop 8, M + 4, 0)) := ⟨by
              rw [fDec, if_neg (by omega), hN, if_neg (by simpa using hh), if_neg (by omega), if_neg (by omega), Int.toNat_natCast, ← hM, if_neg (by rw [hz1, hz2]; simpa using hz), hcnt]⟩
            have HCL : As (∀ wX, Kp [] w wX → Calls Tryz.prog 118 #[.slice (some ⟨b0, o0 + 8, none⟩) (M - 8) (c - 8)] wX (RetOwn 5 .u8 wX ((xs.take M).drop 8))) := ⟨fun wX k => by
              have h := (HTK.out wX k).drop 8
              rw [iv_drop, Go.WideShapes.add_plain] at h
              exact clone.clone_any (some ⟨b0, o0 + 8, none⟩) (M - 8) (c - 8) ((xs.take M).drop 8) wX (by rw [List.length_drop, hlM]) h (by simp) (by omega)⟩
            subst hz
            clear hr hw hn hN hh hd1 hrd2 hz1 hz2 hlM hwM HTK hM hn2 hc2 hN3 hcnt
            have h8c : (8 : Int) ≤ (M : Int) := by omega
            have h8d : (8 : Int) ≤ (c : Int) := by omega
            have h8e : ¬ c = 8 := by omega
            go_enter Tryz.func128, Tryz.ntmps128
            go_wp2_with (go_at_call 137; refine HF.out.mono ?_; rintro e w1 ⟨rfl, n1, hw1⟩; have HK1 : As (Kp [] w w1) := ⟨by rw [hw1]; exact (Kp.refl [] w).drewN _⟩; clear hw1 HF)
            go_region_held3 (fun w' => True) (exact trivial) (first
              | (go_at_call 138; refine (HEQ.out _ _ _ HK2.out HR2.out).mono ?_; rintro e w3 ⟨rfl, hw3⟩; have HK3 : As (Kp [] w w3) := ⟨by rw [hw3]; exact HK2.out⟩; clear hw3)
              | (go_at_call 134; refine (HHD.out _).mono ?_; rintro e w2 ⟨A2, c2, rfl, k2, r2, h2, h2', n2⟩; have HK2 : As (Kp [] w w2) := ⟨(HK1.out.drew).trans k2 (by simp)⟩; have HR2 := As.mk r2; clear k2 r2 n2))
            clear HHD HEQ
            go_wp2_with (first
              | (go_at_call 137; refine (HF2.out _ HK3.out).mono ?_; rintro e w4 ⟨rfl, k4⟩; have HK4 := As.mk k4; have HS4 := As.mk (HSM.out w4 k4); clear k4 HF2)
              | (go_at_call 136; refine HS4.out.mono ?_; rintro e w5 ⟨rfl, k5⟩; have HK5 := As.mk k5; have HC5 := As.mk (HCL.out w5 k5); clear k5 HS4)
              | (go_at_call 118; refine HC5.out.mono ?_; rintro e w6 ⟨v6, rfl, o6, k6⟩; have HO6 := As.mk (o6.lower HK5.out.size); have HK6 : As (Kp [] w w6) := ⟨HK5.out.trans k6 (by simp)⟩; clear k6 o6 HC5))
            go_ret3
            refine ⟨v6, by rw [HE.out]; rfl, ?_, HK6.out⟩
            rw [HE.out]
            exact HO6.out
          · have HE : As (fDec xs = ([], 0, 4)) := ⟨by
              rw [fDec, if_neg (by omega), hN, if_neg (by simpa using hh), if_neg (by omega), if_neg (by omega), Int.toNat_natCast, ← hM, if_pos (by rw [hz1, hz2]; exact hz)]⟩
            have hzb : (z1 != z2) = true := by simpa using hz
            clear hr hw hn hN hh hd1 hrd2 hz1 hz2 hlM hwM HTK hM hn2 hc2 hN3 hcnt hz
            go_enter Tryz.func128, Tryz.ntmps128
            go_wp2_with (go_at_call 137; refine HF.out.mono ?_; rintro e w1 ⟨rfl, n1, hw1⟩; have HK1 : As (Kp [] w w1) := ⟨by rw [hw1]; exact (Kp.refl [] w).drewN _⟩; clear hw1 HF)
            go_region_held3 (fun w' => True) (exact trivial) (first
              | (go_at_call 138; refine (HEQ.out _ _ _ HK2.out HR2.out).mono ?_; rintro e w3 ⟨rfl, hw3⟩; have HK3 : As (Kp [] w w3) := ⟨by rw [hw3]; exact HK2.out⟩; clear hw3)
              | (go_at_call 134; refine (HHD.out _).mono ?_; rintro e w2 ⟨A2, c2, rfl, k2, r2, h2, h2', n2⟩; have HK2 : As (Kp [] w w2) := ⟨(HK1.out.drew).trans k2 (by simp)⟩; have HR2 := As.mk r2; clear k2 r2 n2))
            clear HHD HEQ
            go_wp2_with (first
              | (go_at_call 137; refine (HF2.out _ HK3.out).mono ?_; rintro e w4 ⟨rfl, k4⟩; have HK4 := As.mk k4; have HS4 := As.mk (HSM.out w4 k4); clear k4 HF2)
              | (go_at_call 136; refine HS4.out.mono ?_; rintro e w5 ⟨rfl, k5⟩; have HK5 := As.mk k5; clear k5 HS4))
            go_ret3
            exact fdec_none HE.out HK5.out
    · have hd1 : decide (xs.take 8 = head N) = false := decide_eq_false hh
      rw [hd1] at HEQ
      have HE : As (fDec xs = ([], 0, 4)) := ⟨by rw [fDec, if_neg (by omega), hN, if_pos hh]⟩
      clear hr hw hn hN hh hd1
      go_enter Tryz.func128, Tryz.ntmps128
      go_wp2_with (go_at_call 137; refine HF.out.mono ?_; rintro e w1 ⟨rfl, n1, hw1⟩; have HK1 : As (Kp [] w w1) := ⟨by rw [hw1]; exact (Kp.refl [] w).drewN _⟩; clear hw1 HF)
      go_region_held3 (fun w' => True) (exact trivial) (first
        | (go_at_call 138; refine (HEQ.out _ _ _ HK2.out HR2.out).mono ?_; rintro e w3 ⟨rfl, hw3⟩; have HK3 : As (Kp [] w w3) := ⟨by rw [hw3]; exact HK2.out⟩; clear hw3)
        | (go_at_call 134; refine (HHD.out _).mono ?_; rintro e w2 ⟨A2, c2, rfl, k2, r2, h2, h2', n2⟩; have HK2 : As (Kp [] w w2) := ⟨(HK1.out.drew).trans k2 (by simp)⟩; have HR2 := As.mk r2; clear k2 r2 n2))
      clear HHD HEQ
      go_wp2
      go_ret3
      exact fdec_none HE.out HK3.out
end Go.Proofs.YtdiljpdohmeceaaGreat.frame

/- A record of which one byte is another one is refused: the plain law. -/
namespace Go.Proofs.YtdiljpdohmeceaaGreat.O
open Go.RowKit H

theorem set_ne {l : List Int} {k : Nat} {z : Int} (hk : k < l.length) (hz : z ≠ l[k]) : l.set k z ≠ l := by
  intro h
  have h2 := congrArg (fun m => m[k]?) h
  simp [hk] at h2
  exact hz h2
theorem fDec_form (b : List Int) : (fDec b).2.2 = 0 ∨ fDec b = ([], 0, (fDec b).2.2) := by
  unfold fDec
  repeat' split
  all_goals first
    | exact .inr rfl
    | exact .inl rfl
theorem fDec_zero {b : List Int} (h : (fDec b).2.2 = 0) : 8 ≤ b.length ∧ b.take 8 = head (unf b) ∧ unf (b.drop (8 + (unf b).toNat)) = crc (b.take (8 + (unf b).toNat)) := by
  unfold fDec at h
  split at h
  · cases h
  · split at h
    · cases h
    · split at h
      · cases h
      · split at h
        · cases h
        · split at h
          · cases h
          · rename_i h1 h2 h3 h4 h5
            exact ⟨by omega, by simpa using h2, by simpa using h5⟩
theorem four_inj {a b : Int} (ha : 0 ≤ a ∧ a < 4294967296) (hb : 0 ≤ b ∧ b < 4294967296) (h : four a = four b) : a = b := by
  rw [← unf_four ha.1 ha.2, h, unf_four hb.1 hb.2]
theorem fDec_sees {p more : List Int} {k : Nat} {z : Int} (hp : p.length ≤ 1048576) (hw : Wf p) (hk : k < (fEnc p).length) (hz : 0 ≤ z ∧ z < 256) (hne : z ≠ (fEnc p)[k]) :
    ∃ e, fDec ((fEnc p).set k z ++ more) = ([], 0, e) ∧ e ≠ 0 := by
  obtain ⟨b, hb⟩ : ∃ b, b = (fEnc p).set k z ++ more := ⟨_, rfl⟩
  rw [← hb]
  by_cases h0 : (fDec b).2.2 = 0
  · exfalso
    obtain ⟨h8, hh, hc⟩ := fDec_zero h0
    have hwE := fEnc_wf hw
    have hkb : 0 ≤ (fEnc p)[k] ∧ (fEnc p)[k] < 256 := hwE _ (List.getElem_mem hk)
    have hlE := fEnc_len p
    have htk : ∀ m, m ≤ p.length + 12 → b.take m = ((fEnc p).take m).set k z := by
      intro m hm
      rw [hb, List.take_append_of_le_length (by rw [List.length_set]; omega), List.take_set]
    have hE8 : (fEnc p).take 8 = head p.length := by rw [fEnc, List.append_assoc, List.take_left' (head_len _)]
    have hEM : (fEnc p).take (8 + p.length) = head p.length ++ p := by rw [fEnc, List.take_left' (by rw [List.length_append, head_len])]
    have hED : (fEnc p).drop (8 + p.length) = four (crc (head p.length ++ p)) := by rw [fEnc, List.drop_left' (by rw [List.length_append, head_len])]
    have hE4 : (fEnc p).take 4 = four p.length := by rw [fEnc, head, List.append_assoc, List.append_assoc, List.take_left' (four_len _)]
    have hT : 0 ≤ (p.length : Int) ∧ (p.length : Int) < 4294967296 := by omega
    have hwb : Wf (b.take 4) := by
      rw [htk 4 (by omega)]
      intro x hx
      rcases List.mem_or_eq_of_mem_set hx with h | h
      · exact hwE x (List.mem_of_mem_take h)
      · omega
    have hu := unf_le hwb
    rw [unf_take (by omega)] at hu
    have hl4 : (b.take 4).length = 4 := by rw [List.length_take]; omega
    by_cases k8 : k < 8
    · have e8 := htk 8 (by omega)
      rw [hE8, hh] at e8
      have e4 := htk 4 (by omega)
      rw [hE4] at e4
      have f4 := four_unf hl4 hwb
      rw [unf_take (by omega)] at f4
      by_cases k4 : k < 4
      · have e48 : four (crc (four (unf b))) = four (crc (four p.length)) := by
          have h1 := congrArg (List.drop 4) e8
          rw [List.drop_set_of_lt (by omega), head, head, List.drop_left' (four_len _), List.drop_left' (four_len _)] at h1
          exact h1
        have e := four_inj (crc_le _) (crc_le _) e48
        rw [f4, e4] at e
        have hk4 : k < (four (p.length : Int)).length := by rw [four_len]; exact k4
        have hg : (four (p.length : Int))[k] = (fEnc p)[k] := by
          have h1 : ((fEnc p).take 4)[k]? = (fEnc p)[k]? := List.getElem?_take_of_lt k4
          rw [hE4, List.getElem?_eq_getElem hk4, List.getElem?_eq_getElem hk] at h1
          exact Option.some.inj h1
        exact crc_set hk4 (by rw [hg]; exact hkb) hz (by rw [hg]; exact hne) e
      · have e44 : b.take 4 = four p.length := by rw [e4, List.set_eq_of_length_le (by rw [four_len]; omega)]
        have hub : unf b = p.length := by rw [← unf_take (l := b) (k := 4) (by omega), e44, unf_four hT.1 hT.2]
        rw [hub] at e8
        have hk8 : k < (head (p.length : Int)).length := by rw [head_len]; exact k8
        have hg : (head (p.length : Int))[k] = (fEnc p)[k] := by
          have h1 : ((fEnc p).take 8)[k]? = (fEnc p)[k]? := List.getElem?_take_of_lt k8
          rw [hE8, List.getElem?_eq_getElem hk8, List.getElem?_eq_getElem hk] at h1
          exact Option.some.inj h1
        exact set_ne hk8 (by rw [hg]; exact hne) e8.symm
    · have e8 := htk 8 (by omega)
      rw [hE8, List.set_eq_of_length_le (by rw [head_len]; omega)] at e8
      have hub : unf b = p.length := by
        rw [← unf_take (l := b) (k := 8) (by omega), e8]
        have := unf_head hT.1 hT.2 []
        rwa [List.append_nil] at this
      rw [hub, Int.toNat_natCast] at hc
      have eM := htk (8 + p.length) (by omega)
      rw [hEM] at eM
      have eD : b.drop (8 + p.length) = ((fEnc p).set k z).drop (8 + p.length) ++ more := by rw [hb, List.drop_append_of_le_length (by rw [List.length_set]; omega)]
      by_cases kM : k < 8 + p.length
      · rw [List.drop_set_of_lt (by omega), hED] at eD
        rw [eD, unf_app (by rw [four_len]; omega), unf_four (crc_le _).1 (crc_le _).2, eM] at hc
        have hkM : k < (head (p.length : Int) ++ p).length := by rw [List.length_append, head_len]; exact kM
        have hg : (head (p.length : Int) ++ p)[k] = (fEnc p)[k] := by
          have h1 : ((fEnc p).take (8 + p.length))[k]? = (fEnc p)[k]? := List.getElem?_take_of_lt kM
          rw [hEM, List.getElem?_eq_getElem hkM, List.getElem?_eq_getElem hk] at h1
          exact Option.some.inj h1
        exact crc_set hkM (by rw [hg]; exact hkb) hz (by rw [hg]; exact hne) hc.symm
      · rw [List.set_eq_of_length_le (by rw [List.length_append, head_len]; omega)] at eM
        rw [List.drop_set, if_neg kM, hED] at eD
        rw [eD, unf_app (by rw [List.length_set, four_len]; omega), eM] at hc
        have hkD : k - (8 + p.length) < (four (crc (head (p.length : Int) ++ p))).length := by rw [four_len]; omega
        have hg : (four (crc (head (p.length : Int) ++ p)))[k - (8 + p.length)] = (fEnc p)[k] := by
          have h1 : ((fEnc p).drop (8 + p.length))[k - (8 + p.length)]? = (fEnc p)[k]? := by rw [List.getElem?_drop]; congr 1; omega
          rw [hED, List.getElem?_eq_getElem hkD, List.getElem?_eq_getElem hk] at h1
          exact Option.some.inj h1
        have hws : Wf ((four (crc (head (p.length : Int) ++ p))).set (k - (8 + p.length)) z) := by
          intro x hx
          rcases List.mem_or_eq_of_mem_set hx with h | h
          · exact four_wf _ x h
          · omega
        have h2 := four_unf (by rw [List.length_set, four_len]) hws
        rw [hc] at h2
        exact set_ne hkD (by rw [hg]; exact hne) h2.symm
  · rcases fDec_form b with h | h
    · exact absurd h h0
    · exact ⟨_, h, h0⟩
end Go.Proofs.YtdiljpdohmeceaaGreat.O
