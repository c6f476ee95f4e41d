/- Words on memory that this seat's own proofs use: what a call may have written (Kp), what a slice reads as (Rd), lists of bytes and numbers. Plain definitions and theorems over any program. -/
import Derived.WalkKit
import Derived.Below
import Derived.Deep.Draws
import Derived.Deep.QuietTactic
import Derived.BigQuiet
import Derived.Deep.LoopGhost
import Derived.Laws.OwnMore
import Derived.OneCell
import Derived.Laws.Rows
namespace Go.Proofs.Ytlknlpiiogmfbaa.H
open Go.RowKit

/-- A fact that the walk does not look into. -/
structure As (p : Prop) : Prop where mk :: (out : p)

/-- Of what lay in w nothing has turned but the blocks of S; blocks may have come. -/
structure Kp (S : List Nat) (w w' : World) : Prop where
  os : w'.os = w.os
  tape : w'.tape = w.tape
  output : w'.output = w.output
  size : w.heap.size ≤ w'.heap.size
  block : ∀ k, k < w.heap.size → k ∉ S → w'.heap[k]? = w.heap[k]?

theorem Kp.refl (S : List Nat) (w : World) : Kp S w w := ⟨rfl, rfl, rfl, Nat.le_refl _, fun _ _ _ => rfl⟩
theorem Kp.trans {S T : List Nat} {w w1 w2 : World} (h : Kp S w w1) (k : Kp T w1 w2) (hT : ∀ x ∈ T, x ∈ S ∨ w.heap.size ≤ x) : Kp S w w2 :=
  ⟨k.os.trans h.os, k.tape.trans h.tape, k.output.trans h.output, Nat.le_trans h.size k.size, fun i hi hn =>
    (k.block i (Nat.lt_of_lt_of_le hi h.size) (fun ht => by
      rcases hT i ht with h1 | h1
      · exact hn h1
      · exact absurd hi (by omega))).trans (h.block i hi hn)⟩
theorem Kp.row {S : List Nat} {g : Option Nat} {w w1 w2 : World} (h : Kp S w w1) (k : Kp g.toList w1 w2) (hg : ∀ x, g = some x → x ∈ S ∨ w.heap.size ≤ x) : Kp S w w2 :=
  h.trans k (fun x hx => hg x (by simpa using hx))
theorem Kp.mono {S T : List Nat} {w w1 : World} (h : Kp S w w1) (hT : ∀ x ∈ S, x ∈ T ∨ w.heap.size ≤ x) : Kp T w w1 := (Kp.refl T w).trans h hT
theorem Kp.below {w w' : World} (h : Kp [] w w') : Below w.heap.size w w' := ⟨h.os, h.tape, h.output, h.size, fun k hk => h.block k hk (by simp)⟩
theorem Kp.of_below {w w' : World} (h : Below w.heap.size w w') (S : List Nat) : Kp S w w' := ⟨h.os, h.tape, h.output, h.size, fun k hk _ => h.block k hk⟩
theorem Kp.alloc {S : List Nat} {w w1 : World} (h : Kp S w w1) (o : Obj) : Kp S w (w1.alloc o) :=
  h.trans (T := []) ⟨rfl, rfl, rfl, by simp, fun k hk _ => Below.heap_alloc w1 o k hk⟩ (by simp)
theorem Kp.drew {S : List Nat} {w w1 : World} (h : Kp S w w1) : Kp S w w1.drew := ⟨h.os, h.tape, h.output, h.size, h.block⟩
theorem Kp.drewN {S : List Nat} {w w1 : World} (h : Kp S w w1) (n : Nat) : Kp S w (w1.drewN n) := ⟨h.os, h.tape, h.output, h.size, h.block⟩
theorem Kp.setCell {S : List Nat} {w w1 : World} (h : Kp S w w1) {a : Addr} (ha : a.block ∈ S ∨ w.heap.size ≤ a.block) (u : Value) : Kp S w (w1.setCell a u) :=
  h.trans (T := [a.block]) ⟨rfl, rfl, rfl, by simp, fun k _ hk => heap_setCell_other w1 a k u (by simpa using hk)⟩ (by simpa using ha)
theorem Kp.grown {S : List Nat} {w w1 w2 : World} {row : Option Nat} (h : Kp S w w1) (hg : w1.grownBy w2 row) (hr : ∀ k, row = some k → k ∈ S ∨ w.heap.size ≤ k) : Kp S w w2 :=
  h.trans (T := row.toList) ⟨hg.os, hg.tape, hg.output, hg.size, fun k hk hn => hg.block k hk (by rintro rfl; simp at hn)⟩ (by cases row <;> simp_all)
theorem Kp.cell {S : List Nat} {w w1 : World} (h : Kp S w w1) {a : Addr} {v : Value} (hc : w.cell? a = some v) (ha : a.block ∉ S) : w1.cell? a = some v :=
  (World.cell?_of_block (h.block _ (World.block_lt_of_cell? w a hc) ha)).trans hc
theorem Kp.blk {S : List Nat} {w w1 : World} (h : Kp S w w1) {k : Nat} {o : Obj} (hb : w.heap[k]? = some o) (hk : k ∉ S) : w1.heap[k]? = some o :=
  (h.block k (lt_of_block hb) hk).trans hb
theorem Kp.own {S : List Nat} {w w1 : World} (h : Kp S w w1) {base : Nat} {e : TypeId} {size : Nat} {v : Value} {n : Nat} {xs : List Value} (ho : w.ownsRow base e size v n xs)
    (hv : ∀ k, v.ownBlock = some k → k ∉ S) : w1.ownsRow base e size v n xs := by
  refine ⟨ho.1, ?_⟩
  rcases ho.2 with hn | ⟨g, cap, cur, rfl, hb, hgg, rest⟩
  · exact .inl hn
  · exact .inr ⟨g, cap, cur, rfl, hb, h.blk hgg (hv g rfl), rest⟩

/-- A row's own store. -/
theorem own_store {w : World} {e : TypeId} {g n cap : Nat} {xs : List Value} (h : w.ownsRow 0 e 1 (.slice (some ⟨g, 0, none⟩) n cap) n xs) (j : Nat) (hj : j < n) (u : Value) :
    (∃ x, w.cell? ⟨g, j, none⟩ = some x) ∧ w.frozen? ⟨g, j, none⟩ = false ∧ (w.setCell ⟨g, j, none⟩ u).ownsRow 0 e 1 (.slice (some ⟨g, 0, none⟩) n cap) n (xs.set j u) := by
  have hx : xs.length = n := by simpa using h.1
  refine ⟨⟨xs[j], ?_⟩, h.frozenAt j, (h.stored j u).1⟩
  rw [h.cellAt j (by omega)]
  simp

/-- What a slice's address gives: the cells vs. -/
def Rd (w : World) (A : Option Addr) (vs : List Value) : Prop :=
  ∀ j v, vs[j]? = some v → ∃ a, A = some a ∧ w.cell? (a.add j) = some v
/-- The address lies in none of these blocks. -/
def Off (S : List Nat) (A : Option Addr) : Prop := ∀ a, A = some a → a.block ∉ S

theorem add_block (a : Addr) (n : Nat) : (a.add n).block = a.block := by unfold Addr.add; split <;> rfl
theorem Kp.rd {S : List Nat} {w w1 : World} (h : Kp S w w1) {A : Option Addr} {vs : List Value} (hr : Rd w A vs) (ho : Off S A) : Rd w1 A vs := by
  intro j v hv
  obtain ⟨a, rfl, hc⟩ := hr j v hv
  exact ⟨a, rfl, h.cell hc (by rw [add_block]; exact ho a rfl)⟩
theorem Rd.lt {w : World} {A : Option Addr} {vs : List Value} (h : Rd w A vs) (hn : 0 < vs.length) : ∃ a, A = some a ∧ a.block < w.heap.size := by
  obtain ⟨a, ha, hc⟩ := h 0 vs[0] (by simp)
  exact ⟨a, ha, by have := World.block_lt_of_cell? w _ hc; rwa [add_block] at this⟩
/-- Blocks that are not there yet can't be read. -/
theorem Kp.rd_new {S : List Nat} {w w1 : World} (h : Kp S w w1) {A : Option Addr} {vs : List Value} (hr : Rd w A vs) (ho : ∀ x ∈ S, w.heap.size ≤ x) : Rd w1 A vs := by
  intro j v hv
  obtain ⟨a, rfl, hc⟩ := hr j v hv
  have hl := World.block_lt_of_cell? w _ hc
  exact ⟨a, rfl, h.cell hc (fun hm => by have := ho _ hm; omega)⟩

theorem Rd.nil (w : World) (A : Option Addr) : Rd w A [] := fun j v h => by simp at h

theorem add_zero' (a : Addr) : a.add 0 = a := by unfold Addr.add; split <;> simp_all
theorem add_add' (a : Addr) (i j : Nat) : (a.add i).add j = a.add (i + j) := by
  obtain ⟨b, o, s⟩ := a
  cases s <;> simp only [Addr.add] <;> (repeat' split) <;> simp_all <;> omega
theorem Rd.take {w : World} {A : Option Addr} {vs : List Value} (h : Rd w A vs) (n : Nat) : Rd w A (vs.take n) := by
  intro j v hv
  rw [List.getElem?_take] at hv
  split at hv
  · exact h j v hv
  · cases hv
theorem Rd.drop {w : World} {a : Addr} {vs : List Value} (h : Rd w (some a) vs) (n : Nat) : Rd w (some (a.add n)) (vs.drop n) := by
  intro j v hv
  rw [List.getElem?_drop] at hv
  obtain ⟨a', ha, hc⟩ := h (n + j) v hv
  cases ha
  exact ⟨_, rfl, by rw [add_add']; exact hc⟩
/-- Where a slice begins that was cut at its head. -/
def cutAt (a : Addr) (c n : Nat) : Addr := if c = n then a else a.add n
theorem cutAt_block (a : Addr) (c n : Nat) : (cutAt a c n).block = a.block := by unfold cutAt; split; rfl; exact add_block a n
theorem Rd.cut {w : World} {a : Addr} {vs : List Value} {c n : Nat} (h : Rd w (some a) vs) (hc : vs.length ≤ c) : Rd w (some (cutAt a c n)) (vs.drop n) := by
  unfold cutAt
  split
  · rw [List.drop_of_length_le (by omega)]
    exact Rd.nil _ _
  · exact h.drop n
theorem Rd.app {w : World} {A : Option Addr} {vs us : List Value} (h : Rd w A (vs ++ us)) : Rd w A vs := by
  intro j v hv
  exact h j v (by rw [List.getElem?_append_left (List.getElem?_eq_some_iff.1 hv).1]; exact hv)

/-- A list's numbers as values. -/
def iv (k : IntKind) (xs : List Int) : List Value := xs.map (Value.int k)
theorem iv_len (k : IntKind) (xs : List Int) : (iv k xs).length = xs.length := by simp [iv]
theorem iv_app (k : IntKind) (xs ys : List Int) : iv k (xs ++ ys) = iv k xs ++ iv k ys := by simp [iv]
theorem iv_take (k : IntKind) (xs : List Int) (n : Nat) : (iv k xs).take n = iv k (xs.take n) := by simp [iv, List.map_take]
theorem iv_drop (k : IntKind) (xs : List Int) (n : Nat) : (iv k xs).drop n = iv k (xs.drop n) := by simp [iv, List.map_drop]
theorem iv_one (k : IntKind) (xs : List Int) : ∀ u ∈ iv k xs, u.oneCell' = true := by
  intro u hu
  obtain ⟨_, _, rfl⟩ := List.mem_map.1 hu
  rfl
theorem iv_get (k : IntKind) (xs : List Int) (j : Nat) (h : j < xs.length) : (iv k xs)[j]? = some (.int k xs[j]) := by simp [iv, h]
/-- An element, as the walk asks for it. -/
def rd (xs : List Int) (i : Int) : Int := xs.getD i.toNat 0
theorem rd_nat (xs : List Int) (i : Nat) (h : i < xs.length) : rd xs (i : Int) = xs[i] := by simp [rd, h]
theorem Rd.int {w : World} {A : Option Addr} {k : IntKind} {xs : List Int} (h : Rd w A (iv k xs)) (i : Nat) (hi : i < xs.length) :
    ∃ a, A = some a ∧ w.cell? (a.add i) = some (.int k xs[i]) := h i _ (iv_get k xs i hi)

/-- Owned cells read. -/
theorem own_rd {w : World} {base : Nat} {e : TypeId} {size : Nat} {v : Value} {n : Nat} {xs : List Value} (h : w.ownsRow base e size v n xs) :
    ∃ A c, v = .slice A n c ∧ n ≤ c ∧ c ≤ maxLen ∧ Rd w A xs ∧ (A = none → c = 0) := by
  rcases h.2 with ⟨rfl, rfl⟩ | ⟨g, cap, cur, rfl, hb, hh, h1, h2, h3, h4⟩
  · have : xs = [] := List.eq_nil_of_length_eq_zero (by simpa using h.1)
    subst this
    exact ⟨none, 0, rfl, Nat.le_refl _, Nat.zero_le _, Rd.nil _ _, fun _ => rfl⟩
  · exact ⟨_, cap, rfl, h1, h2, fun j u hu => ⟨_, rfl, h.cells (g := g) rfl j u hu⟩, by simp⟩
theorem own_form {w : World} {base : Nat} {e : TypeId} {size : Nat} {v : Value} {n : Nat} {xs : List Value} (h : w.ownsRow base e size v n xs) (hn : 0 < n) :
    ∃ g cap, v = .slice (some ⟨g, 0, none⟩) n cap ∧ n ≤ cap ∧ cap ≤ 9223372036854775807 := by
  rcases h.2 with ⟨rfl, rfl⟩ | ⟨g, cap, cur, rfl, hb, hh, h1, h2, h3, h4⟩
  · omega
  · exact ⟨g, cap, rfl, h1, h2⟩
/-- A row cut short. -/
theorem own_take {w : World} {base : Nat} {e : TypeId} {v : Value} {g n m cap : Nat} {xs : List Value} (h : w.ownsRow base e 1 v n xs) (hv : v = .slice (some ⟨g, 0, none⟩) n cap) (hm : m ≤ n) :
    w.ownsRow base e 1 (.slice (some ⟨g, 0, none⟩) m cap) m (xs.take m) := by
  subst hv
  rcases h.2 with ⟨h1, _⟩ | ⟨g', cap', cur, h0, hb, hh, h1, h2, h3, h4⟩
  · cases h1
  · cases h0
    have hx : xs.length = n := by simpa using h.1
    refine ⟨by simp; omega, .inr ⟨g, cap, cur, rfl, hb, hh, by omega, h2, h3, ?_⟩⟩
    rw [← h4, List.take_take]
    congr 1
    omega
theorem own_lt {w : World} {base : Nat} {e : TypeId} {size : Nat} {v : Value} {n : Nat} {xs : List Value} (h : w.ownsRow base e size v n xs) (k : Nat) (hk : v.ownBlock = some k) : k < w.heap.size := (h.lt k hk).2
theorem own_base {w : World} {base base' : Nat} {e : TypeId} {size : Nat} {v : Value} {n : Nat} {xs : List Value} (h : w.ownsRow base e size v n xs) (hb : ∀ k, v.ownBlock = some k → base' ≤ k) : w.ownsRow base' e size v n xs := by
  refine ⟨h.1, ?_⟩
  rcases h.2 with h2 | ⟨g, cap, cur, rfl, _, r⟩
  · exact .inl h2
  · exact .inr ⟨g, cap, cur, rfl, hb g rfl, r⟩

theorem blk_alloc {w : World} {k : Nat} {o : Obj} (h : w.heap[k]? = some o) (x : Obj) : (w.alloc x).heap[k]? = some o := (Below.heap_alloc w x k (lt_of_block h)).trans h
theorem blk_set_far {w : World} {k : Nat} {o : Obj} (h : w.heap[k]? = some o) {a : Addr} (ha : k ≠ a.block) (u : Value) : (w.setCell a u).heap[k]? = some o := (heap_setCell_other w a k u ha).trans h
theorem blk_cell {w : World} {b : Nat} {cs : Array Value} {t : TypeId} (h : w.heap[b]? = some (.cells cs t (0, 0))) (j : Nat) {v : Value} (hv : cs[j]? = some v) : w.cell? ⟨b, j, none⟩ = some v := (cell_of_row w b j cs t (0, 0) h).trans hv
theorem ownBlock_slice (A : Option Addr) (n c : Nat) : (Value.slice A n c).ownBlock = A.map Addr.block := by cases A <;> rfl
theorem blk_free {w : World} {b : Nat} {cs : Array Value} {t : TypeId} (h : w.heap[b]? = some (.cells cs t (0, 0))) (j : Nat) : w.frozen? ⟨b, j, none⟩ = false := frozen_of_row w b j cs t h

/-- Where a slice's row lies: as before, or new. -/
def At (n : Nat) (g g' : Option Nat) : Prop := g' = g ∨ ∃ k, g' = some k ∧ n ≤ k
theorem At.low {n m : Nat} {g g' : Option Nat} (h : At n g g') (hm : m ≤ n) : At m g g' := by
  rcases h with h | ⟨k, h, hk⟩
  · exact .inl h
  · exact .inr ⟨k, h, by omega⟩
theorem At.refl (n : Nat) (g : Option Nat) : At n g g := .inl rfl
theorem At.trans {n m : Nat} {g g1 g2 : Option Nat} (h : At n g g1) (k : At m g1 g2) (hm : n ≤ m) : At n g g2 := by
  rcases k with rfl | ⟨k, rfl, hk⟩
  · exact h
  · exact .inr ⟨k, rfl, by omega⟩
theorem At.ge {n lo : Nat} {g g' : Option Nat} (h : At n g g') (hn : lo ≤ n) (hg : ∀ k, g = some k → lo ≤ k) : ∀ k, g' = some k → lo ≤ k := by
  intro k hk
  rcases h with rfl | ⟨j, rfl, hj⟩
  · exact hg k hk
  · have := Option.some.inj hk
    omega
theorem At.off {n : Nat} {g g' : Option Nat} (h : At n g g') {x : Nat} (hx : x < n) (hg : g ≠ some x) : g' ≠ some x := by
  rcases h with rfl | ⟨k, rfl, hk⟩
  · exact hg
  · intro e
    have := Option.some.inj e
    omega

/-- What a slice's address gives, none of it in the blocks S. -/
def RdS (S : List Nat) (w : World) (A : Option Addr) (vs : List Value) : Prop :=
  ∀ j v, vs[j]? = some v → ∃ a, A = some a ∧ a.block ∉ S ∧ w.cell? (a.add j) = some v
theorem RdS.rd {S : List Nat} {w : World} {A : Option Addr} {vs : List Value} (h : RdS S w A vs) : Rd w A vs := fun j v hv => by
  obtain ⟨a, h1, _, h2⟩ := h j v hv
  exact ⟨a, h1, h2⟩
theorem RdS.kp {S T : List Nat} {w w1 : World} {A : Option Addr} {vs : List Value} (h : RdS S w A vs) (k : Kp T w w1) (hT : ∀ x ∈ T, x ∈ S ∨ w.heap.size ≤ x) : RdS S w1 A vs := by
  intro j v hv
  obtain ⟨a, rfl, h1, h2⟩ := h j v hv
  have hl := World.block_lt_of_cell? w _ h2
  rw [add_block] at hl
  exact ⟨a, rfl, h1, k.cell h2 (by rw [add_block]; intro hm; rcases hT _ hm with h | h; exact h1 h; omega)⟩
theorem RdS.new {S : List Nat} {w w1 : World} {A : Option Addr} {vs : List Value} (h : Rd w A vs) (k : Kp [] w w1) (hS : ∀ x ∈ S, w.heap.size ≤ x) : RdS S w1 A vs := by
  intro j v hv
  obtain ⟨a, rfl, h2⟩ := h j v hv
  have hl := World.block_lt_of_cell? w _ h2
  rw [add_block] at hl
  exact ⟨a, rfl, fun hm => by have := hS _ hm; omega, k.cell h2 (by simp)⟩
theorem RdS.app {S : List Nat} {w : World} {A : Option Addr} {vs us : List Value} (h : RdS S w A (vs ++ us)) : RdS S w A vs := by
  intro j v hv
  exact h j v (by rw [List.getElem?_append_left (List.getElem?_eq_some_iff.1 hv).1]; exact hv)
theorem RdS.int {S : List Nat} {w : World} {A : Option Addr} {k : IntKind} {xs : List Int} (h : RdS S w A (iv k xs)) (i : Nat) (hi : i < xs.length) :
    ∃ a, A = some a ∧ w.cell? (a.add i) = some (.int k xs[i]) := h.rd.int i hi
theorem RdS.lit {S : List Nat} (w : World) (us : List Value) (t : TypeId) (hS : ∀ x ∈ S, x < w.heap.size) : RdS S (w.alloc (.cells us.toArray t)) (some ⟨w.heap.size, 0, none⟩) us := by
  intro j v hv
  refine ⟨_, rfl, fun hm => by have := hS _ hm; simp at this, ?_⟩
  rw [Addr.add_lit, World.cell?_alloc_new]
  simpa using hv

/-- A slice of rows of bytes, none of it in the blocks S. -/
def Rs (S : List Nat) (w : World) (A : Option Addr) (l : List (List Int)) : Prop :=
  ∀ j (h : j < l.length), ∃ a Aj cj, A = some a ∧ a.block ∉ S ∧ w.cell? (a.add j) = some (.slice Aj l[j].length cj) ∧ l[j].length ≤ cj ∧ (Aj = none → cj = 0) ∧ RdS S w Aj (iv .u8 l[j])
theorem Rs.kp {S T : List Nat} {w w1 : World} {A : Option Addr} {l : List (List Int)} (h : Rs S w A l) (k : Kp T w w1) (hT : ∀ x ∈ T, x ∈ S ∨ w.heap.size ≤ x) : Rs S w1 A l := by
  intro j hj
  obtain ⟨a, Aj, cj, rfl, h0, hc, h1, h2, h3⟩ := h j hj
  have hl := World.block_lt_of_cell? w _ hc
  rw [add_block] at hl
  exact ⟨a, Aj, cj, rfl, h0, k.cell hc (by rw [add_block]; intro hm; rcases hT _ hm with h | h; exact h0 h; omega), h1, h2, h3.kp k hT⟩
theorem Rs.new {S S' : List Nat} {w w1 : World} {A : Option Addr} {l : List (List Int)} (h : Rs S' w A l) (k : Kp [] w w1) (hS : ∀ x ∈ S, w.heap.size ≤ x) : Rs S w1 A l := by
  intro j hj
  obtain ⟨a, Aj, cj, rfl, h0, hc, h1, h2, h3⟩ := h j hj
  have hl := World.block_lt_of_cell? w _ hc
  rw [add_block] at hl
  exact ⟨a, Aj, cj, rfl, fun hm => by have := hS _ hm; omega, k.cell hc (by simp), h1, h2, RdS.new h3.rd k hS⟩

/-- a marked row, newly laid -/
theorem rds_mark {S : List Nat} (w : World) (us : List Value) (t : TypeId) (f : Nat × Nat) (hS : ∀ x ∈ S, x < w.heap.size) : RdS S (w.alloc (.cells us.toArray t f)) (some ⟨w.heap.size, 0, none⟩) us := by
  intro j v hv
  refine ⟨_, rfl, fun hm => by have := hS _ hm; simp at this, ?_⟩
  rw [Addr.add_lit]
  simp only [World.cell?, Nat.zero_add]
  rw [heap_alloc_new]
  simpa using hv
/-- one row, two rows, newly laid -/
theorem rs_one {S : List Nat} (w : World) (xs : List Int) (n : Nat) (hn : xs.length = n) (t u : TypeId) (f : Nat × Nat) (hS : ∀ x ∈ S, x < w.heap.size) :
    Rs S ((w.alloc (.cells (iv .u8 xs).toArray t f)).alloc (.cells #[.slice (some ⟨w.heap.size, 0, none⟩) n n] u)) (some ⟨w.heap.size + 1, 0, none⟩) [xs] := by
  subst hn
  intro j hj
  obtain rfl : j = 0 := by simpa using hj
  have k := (Kp.refl [] (w.alloc (.cells (iv .u8 xs).toArray t f))).alloc (.cells #[.slice (some ⟨w.heap.size, 0, none⟩) xs.length xs.length] u)
  refine ⟨_, _, _, rfl, fun hm => by have := hS _ hm; simp at this; omega, ?_, Nat.le_refl _, by simp, (rds_mark w (iv .u8 xs) t f hS).kp k (by simp)⟩
  rw [add_zero']
  simp
/-- a list of one row that is there -/
theorem rs_cell {S : List Nat} (w : World) (A : Option Addr) (xs : List Int) (n c : Nat) (hn : xs.length = n) (hc : n ≤ c) (hnil : A = none → c = 0) (u : TypeId) (hr : RdS S w A (iv .u8 xs)) (hS : ∀ x ∈ S, x < w.heap.size) :
    Rs S (w.alloc (.cells #[.slice A n c] u)) (some ⟨w.heap.size, 0, none⟩) [xs] := by
  subst hn
  intro j hj
  obtain rfl : j = 0 := by simpa using hj
  refine ⟨_, A, c, rfl, fun hm => by have := hS _ hm; simp at this, ?_, hc, hnil, hr.kp ((Kp.refl [] w).alloc _) (by simp)⟩
  rw [add_zero']
  simp
theorem rs_two {S : List Nat} (w : World) (xs ys : List Int) (n m : Nat) (hn : xs.length = n) (hm : ys.length = m) (t u : TypeId) (f f' : Nat × Nat) (hS : ∀ x ∈ S, x < w.heap.size) :
    Rs S (((w.alloc (.cells (iv .u8 xs).toArray t f)).alloc (.cells (iv .u8 ys).toArray t f')).alloc (.cells #[.slice (some ⟨w.heap.size, 0, none⟩) n n, .slice (some ⟨w.heap.size + 1, 0, none⟩) m m] u)) (some ⟨w.heap.size + 1 + 1, 0, none⟩) [xs, ys] := by
  subst hn hm
  intro j hj
  have hS1 : ∀ x ∈ S, x < (w.alloc (.cells (iv .u8 xs).toArray t f)).heap.size := fun x hx => by have := hS x hx; simp; omega
  have k1 := (Kp.refl [] (w.alloc (.cells (iv .u8 xs).toArray t f))).alloc (.cells (iv .u8 ys).toArray t f')
  have k2 := (Kp.refl [] ((w.alloc (.cells (iv .u8 xs).toArray t f)).alloc (.cells (iv .u8 ys).toArray t f'))).alloc (.cells #[.slice (some ⟨w.heap.size, 0, none⟩) xs.length xs.length, .slice (some ⟨w.heap.size + 1, 0, none⟩) ys.length ys.length] u)
  have hc := World.cell?_alloc_new ((w.alloc (.cells (iv .u8 xs).toArray t f)).alloc (.cells (iv .u8 ys).toArray t f')) #[.slice (some ⟨w.heap.size, 0, none⟩) xs.length xs.length, .slice (some ⟨w.heap.size + 1, 0, none⟩) ys.length ys.length] u j
  have hz : ((w.alloc (.cells (iv .u8 xs).toArray t f)).alloc (.cells (iv .u8 ys).toArray t f')).heap.size = w.heap.size + 1 + 1 := by simp
  rw [hz] at hc
  match j, hj, hc with
  | 0, hj, hc => exact ⟨_, _, _, rfl, fun hm => by have := hS _ hm; simp at this; omega, by rw [add_zero']; exact hc, Nat.le_refl _, by simp, ((rds_mark w (iv .u8 xs) t f hS).kp k1 (by simp)).kp k2 (by simp)⟩
  | 1, hj, hc => exact ⟨_, _, _, rfl, fun hm => by have := hS _ hm; simp at this; omega, by rw [Addr.add_lit]; exact hc, Nat.le_refl _, by simp, by
      have := (rds_mark (w.alloc (.cells (iv .u8 xs).toArray t f)) (iv .u8 ys) t f' hS1).kp k2 (by simp)
      simpa using this⟩

/-- A row of numbers of the call's own, whose block is none of those below lo. -/
def Own (e : TypeId) (k : IntKind) (w : World) (lo : Nat) (v : Value) (xs : List Int) : Prop := w.ownsRow 0 e 1 v xs.length (iv k xs) ∧ ∀ g, v.ownBlock = some g → lo ≤ g
/-- Such a row is handed back; nothing that was there has turned. -/
def RetOwn (e : TypeId) (k : IntKind) (w : World) (xs : List Int) (en : Ending) (w' : World) : Prop := ∃ v, en = .returned v ∧ Own e k w' w.heap.size v xs ∧ Kp [] w w'
theorem Own.nil (e : TypeId) (k : IntKind) (w : World) (lo : Nat) : Own e k w lo (.slice none 0 0) [] := ⟨World.ownsRow_nil w 0 e 1, by intro g hg; simp [Value.ownBlock] at hg⟩
theorem Own.lower {e : TypeId} {k : IntKind} {w : World} {lo lo' : Nat} {v : Value} {xs : List Int} (h : Own e k w lo v xs) (hl : lo' ≤ lo) : Own e k w lo' v xs := ⟨h.1, fun g hg => Nat.le_trans hl (h.2 g hg)⟩
theorem Own.kp {e : TypeId} {k : IntKind} {w w1 : World} {lo : Nat} {v : Value} {xs : List Int} {S : List Nat} (h : Own e k w lo v xs) (hk : Kp S w w1) (hS : ∀ g, v.ownBlock = some g → g ∉ S) : Own e k w1 lo v xs := ⟨hk.own h.1 hS, h.2⟩
/-- An append onto an empty row newly laid. -/
theorem kp_of_new {w w1 : World} {o : Obj} (k : Kp (Value.slice (some ⟨w.heap.size, 0, none⟩) 0 0).ownBlock.toList (w.alloc o) w1) : Kp [] w w1 :=
  ((Kp.refl [] w).alloc o).trans k (by simp [Value.ownBlock])
theorem own_of_app {e : TypeId} {k : IntKind} {w1 : World} {v v1 : Value} {m n lo : Nat} {ys : List Int} (hm : ys.length = m) (o : w1.ownsRow 0 e 1 v1 (0 + m) ([] ++ iv k ys)) (a : At n v.ownBlock v1.ownBlock) (hn : lo ≤ n)
    (hv : ∀ g, v.ownBlock = some g → lo ≤ g) : Own e k w1 lo v1 ys := ⟨by rw [hm]; simpa using o, a.ge hn hv⟩
theorem one_cell {e : TypeId} {k : IntKind} {w : World} {lo g n cap : Nat} {c : Int} (h : Own e k w lo (.slice (some ⟨g, 0, none⟩) n cap) [c]) : w.cell? ⟨g, 0, none⟩ = some (.int k c) := by
  obtain ⟨A, c', hv, _, _, hr, _⟩ := own_rd h.1
  cases hv
  obtain ⟨a, ha, hc⟩ := hr 0 _ rfl
  cases ha
  rwa [add_zero'] at hc
theorem rd_nil_of_none {w : World} {vs : List Value} (h : Rd w none vs) : vs = [] := by
  cases vs with
  | nil => rfl
  | cons x r => obtain ⟨a, ha, _⟩ := h 0 x rfl; cases ha
theorem iv_nil {k : IntKind} {xs : List Int} (h : iv k xs = []) : xs = [] := by simpa [iv] using h

theorem Own.rds {e : TypeId} {w : World} {lo : Nat} {A : Option Addr} {n c : Nat} {xs : List Int} {S : List Nat} (h : Own e .u8 w lo (.slice A n c) xs) (hS : ∀ x ∈ S, x < lo) : RdS S w A (iv .u8 xs) := by
  obtain ⟨A', c', hv, _, _, hr, _⟩ := own_rd h.1
  cases hv
  intro j v hv
  obtain ⟨a, rfl, hc⟩ := hr j v hv
  exact ⟨a, rfl, fun hm => by have := hS _ hm; have := h.2 a.block rfl; omega, hc⟩
theorem Own.len {e : TypeId} {k : IntKind} {w : World} {lo : Nat} {A : Option Addr} {n c : Nat} {xs : List Int} (h : Own e k w lo (.slice A n c) xs) : xs.length = n := by
  rcases h.1.2 with ⟨h1, h2⟩ | ⟨g, cap, cur, h1, _⟩
  · cases h1; exact h2
  · cases h1; rfl
/-- bytes -/
def Wf (xs : List Int) : Prop := ∀ x ∈ xs, 0 ≤ x ∧ x < 256
theorem Wf.drop {xs : List Int} (h : Wf xs) (n : Nat) : Wf (xs.drop n) := fun x hx => h x (List.mem_of_mem_drop hx)
theorem Wf.take {xs : List Int} (h : Wf xs) (n : Nat) : Wf (xs.take n) := fun x hx => h x (List.mem_of_mem_take hx)
theorem Wf.nil : Wf [] := fun x hx => by simp at hx

end Go.Proofs.Ytlknlpiiogmfbaa.H
