/- MERGED: Heap App Octet Clone Writer Vals OpA OpB Same13 Util13 OpC OpD RdrA Reader Reader2 Crc Crc2 FrameP Four8 Join FrameA OpE Slices Ref Ref2 Cuts RepA RepD Acc OpF Open LawOenc MatP Canon MatA RdrB RefR RefR2 Empty Step Same21 Util21 Ints21 Same22 -/
import Derived.WalkKit
import Derived.Below
import Derived.Deep.Draws
import Derived.Deep.QuietTactic
import Derived.BigQuiet
import Derived.Deep.LoopGhost
import Derived.Laws.OwnMore
import Derived.OneCell
import Derived.Laws.Rows
import Derived.WalkSpells
import Derived.Test.YtiabdeciadfiiaaProg
import Derived.Lib.ConvBytes
import Derived.Lib.SlBytesConst
import Derived.ChangeShapes
import Derived.Deep.RegionHeld3
import Derived.Laws.CopyOwn
import Derived.Laws.Slices
import Derived.Lib.MakeNoZero
import Derived.Laws.Externs
import Derived.ChangeKeysEq
import Derived.Laws.BytesArg
import Derived.Deep.RegionLaw
import Derived.ProofKit
import Derived.OpenShut
import Derived.ShutString
import Derived.ChangeOld
import Derived.SizedLaws
import Derived.Deep.Matrix
/- Words on memory that this seat's own proofs use: what a call may have written (Kp), what a slice reads as (Rd), lists of bytes and numbers. Plain definitions and theorems over any program. -/
namespace Go.Proofs.Ytiabdeciadfiiaa.H
open Go.RowKit

/-- A fact that the walk does not look into. -/
structure As (p : Prop) : Prop where mk :: (out : p)

/-- Of what lay in w nothing has turned but the blocks of S; blocks may have come. -/
structure Kp (S : List Nat) (w w' : World) : Prop where
  os : w'.os = w.os
  tape : w'.tape = w.tape
  output : w'.output = w.output
  size : w.heap.size ≤ w'.heap.size
  block : ∀ k, k < w.heap.size → k ∉ S → w'.heap[k]? = w.heap[k]?

theorem Kp.refl (S : List Nat) (w : World) : Kp S w w := ⟨rfl, rfl, rfl, Nat.le_refl _, fun _ _ _ => rfl⟩
theorem Kp.trans {S T : List Nat} {w w1 w2 : World} (h : Kp S w w1) (k : Kp T w1 w2) (hT : ∀ x ∈ T, x ∈ S ∨ w.heap.size ≤ x) : Kp S w w2 :=
  ⟨k.os.trans h.os, k.tape.trans h.tape, k.output.trans h.output, Nat.le_trans h.size k.size, fun i hi hn =>
    (k.block i (Nat.lt_of_lt_of_le hi h.size) (fun ht => by
      rcases hT i ht with h1 | h1
      · exact hn h1
      · exact absurd hi (by omega))).trans (h.block i hi hn)⟩
theorem Kp.row {S : List Nat} {g : Option Nat} {w w1 w2 : World} (h : Kp S w w1) (k : Kp g.toList w1 w2) (hg : ∀ x, g = some x → x ∈ S ∨ w.heap.size ≤ x) : Kp S w w2 :=
  h.trans k (fun x hx => hg x (by simpa using hx))
theorem Kp.mono {S T : List Nat} {w w1 : World} (h : Kp S w w1) (hT : ∀ x ∈ S, x ∈ T ∨ w.heap.size ≤ x) : Kp T w w1 := (Kp.refl T w).trans h hT
theorem Kp.below {w w' : World} (h : Kp [] w w') : Below w.heap.size w w' := ⟨h.os, h.tape, h.output, h.size, fun k hk => h.block k hk (by simp)⟩
theorem Kp.of_below {w w' : World} (h : Below w.heap.size w w') (S : List Nat) : Kp S w w' := ⟨h.os, h.tape, h.output, h.size, fun k hk _ => h.block k hk⟩
theorem Kp.alloc {S : List Nat} {w w1 : World} (h : Kp S w w1) (o : Obj) : Kp S w (w1.alloc o) :=
  h.trans (T := []) ⟨rfl, rfl, rfl, by simp, fun k hk _ => Below.heap_alloc w1 o k hk⟩ (by simp)
theorem Kp.drew {S : List Nat} {w w1 : World} (h : Kp S w w1) : Kp S w w1.drew := ⟨h.os, h.tape, h.output, h.size, h.block⟩
theorem Kp.drewN {S : List Nat} {w w1 : World} (h : Kp S w w1) (n : Nat) : Kp S w (w1.drewN n) := ⟨h.os, h.tape, h.output, h.size, h.block⟩
theorem Kp.setCell {S : List Nat} {w w1 : World} (h : Kp S w w1) {a : Addr} (ha : a.block ∈ S ∨ w.heap.size ≤ a.block) (u : Value) : Kp S w (w1.setCell a u) :=
  h.trans (T := [a.block]) ⟨rfl, rfl, rfl, by simp, fun k _ hk => heap_setCell_other w1 a k u (by simpa using hk)⟩ (by simpa using ha)
theorem Kp.grown {S : List Nat} {w w1 w2 : World} {row : Option Nat} (h : Kp S w w1) (hg : w1.grownBy w2 row) (hr : ∀ k, row = some k → k ∈ S ∨ w.heap.size ≤ k) : Kp S w w2 :=
  h.trans (T := row.toList) ⟨hg.os, hg.tape, hg.output, hg.size, fun k hk hn => hg.block k hk (by rintro rfl; simp at hn)⟩ (by cases row <;> simp_all)
theorem Kp.cell {S : List Nat} {w w1 : World} (h : Kp S w w1) {a : Addr} {v : Value} (hc : w.cell? a = some v) (ha : a.block ∉ S) : w1.cell? a = some v :=
  (World.cell?_of_block (h.block _ (World.block_lt_of_cell? w a hc) ha)).trans hc
theorem Kp.blk {S : List Nat} {w w1 : World} (h : Kp S w w1) {k : Nat} {o : Obj} (hb : w.heap[k]? = some o) (hk : k ∉ S) : w1.heap[k]? = some o :=
  (h.block k (lt_of_block hb) hk).trans hb
theorem Kp.own {S : List Nat} {w w1 : World} (h : Kp S w w1) {base : Nat} {e : TypeId} {size : Nat} {v : Value} {n : Nat} {xs : List Value} (ho : w.ownsRow base e size v n xs)
    (hv : ∀ k, v.ownBlock = some k → k ∉ S) : w1.ownsRow base e size v n xs := by
  refine ⟨ho.1, ?_⟩
  rcases ho.2 with hn | ⟨g, cap, cur, rfl, hb, hgg, rest⟩
  · exact .inl hn
  · exact .inr ⟨g, cap, cur, rfl, hb, h.blk hgg (hv g rfl), rest⟩

/-- A row's own store. -/
theorem own_store {w : World} {e : TypeId} {g n cap : Nat} {xs : List Value} (h : w.ownsRow 0 e 1 (.slice (some ⟨g, 0, none⟩) n cap) n xs) (j : Nat) (hj : j < n) (u : Value) :
    (∃ x, w.cell? ⟨g, j, none⟩ = some x) ∧ w.frozen? ⟨g, j, none⟩ = false ∧ (w.setCell ⟨g, j, none⟩ u).ownsRow 0 e 1 (.slice (some ⟨g, 0, none⟩) n cap) n (xs.set j u) := by
  have hx : xs.length = n := by simpa using h.1
  refine ⟨⟨xs[j], ?_⟩, h.frozenAt j, (h.stored j u).1⟩
  rw [h.cellAt j (by omega)]
  simp

/-- What a slice's address gives: the cells vs. -/
def Rd (w : World) (A : Option Addr) (vs : List Value) : Prop :=
  ∀ j v, vs[j]? = some v → ∃ a, A = some a ∧ w.cell? (a.add j) = some v
/-- The address lies in none of these blocks. -/
def Off (S : List Nat) (A : Option Addr) : Prop := ∀ a, A = some a → a.block ∉ S

theorem add_block (a : Addr) (n : Nat) : (a.add n).block = a.block := by unfold Addr.add; split <;> rfl
theorem Kp.rd {S : List Nat} {w w1 : World} (h : Kp S w w1) {A : Option Addr} {vs : List Value} (hr : Rd w A vs) (ho : Off S A) : Rd w1 A vs := by
  intro j v hv
  obtain ⟨a, rfl, hc⟩ := hr j v hv
  exact ⟨a, rfl, h.cell hc (by rw [add_block]; exact ho a rfl)⟩
theorem Rd.lt {w : World} {A : Option Addr} {vs : List Value} (h : Rd w A vs) (hn : 0 < vs.length) : ∃ a, A = some a ∧ a.block < w.heap.size := by
  obtain ⟨a, ha, hc⟩ := h 0 vs[0] (by simp)
  exact ⟨a, ha, by have := World.block_lt_of_cell? w _ hc; rwa [add_block] at this⟩
/-- Blocks that are not there yet can't be read. -/
theorem Kp.rd_new {S : List Nat} {w w1 : World} (h : Kp S w w1) {A : Option Addr} {vs : List Value} (hr : Rd w A vs) (ho : ∀ x ∈ S, w.heap.size ≤ x) : Rd w1 A vs := by
  intro j v hv
  obtain ⟨a, rfl, hc⟩ := hr j v hv
  have hl := World.block_lt_of_cell? w _ hc
  exact ⟨a, rfl, h.cell hc (fun hm => by have := ho _ hm; omega)⟩

theorem Rd.nil (w : World) (A : Option Addr) : Rd w A [] := fun j v h => by simp at h

theorem add_zero' (a : Addr) : a.add 0 = a := by unfold Addr.add; split <;> simp_all
theorem add_add' (a : Addr) (i j : Nat) : (a.add i).add j = a.add (i + j) := by
  obtain ⟨b, o, s⟩ := a
  cases s <;> simp only [Addr.add] <;> (repeat' split) <;> simp_all <;> omega
theorem Rd.take {w : World} {A : Option Addr} {vs : List Value} (h : Rd w A vs) (n : Nat) : Rd w A (vs.take n) := by
  intro j v hv
  rw [List.getElem?_take] at hv
  split at hv
  · exact h j v hv
  · cases hv
theorem Rd.drop {w : World} {a : Addr} {vs : List Value} (h : Rd w (some a) vs) (n : Nat) : Rd w (some (a.add n)) (vs.drop n) := by
  intro j v hv
  rw [List.getElem?_drop] at hv
  obtain ⟨a', ha, hc⟩ := h (n + j) v hv
  cases ha
  exact ⟨_, rfl, by rw [add_add']; exact hc⟩
/-- Where a slice begins that was cut at its head. -/
def cutAt (a : Addr) (c n : Nat) : Addr := if c = n then a else a.add n
theorem cutAt_block (a : Addr) (c n : Nat) : (cutAt a c n).block = a.block := by unfold cutAt; split; rfl; exact add_block a n
theorem Rd.cut {w : World} {a : Addr} {vs : List Value} {c n : Nat} (h : Rd w (some a) vs) (hc : vs.length ≤ c) : Rd w (some (cutAt a c n)) (vs.drop n) := by
  unfold cutAt
  split
  · rw [List.drop_of_length_le (by omega)]
    exact Rd.nil _ _
  · exact h.drop n
theorem Rd.app {w : World} {A : Option Addr} {vs us : List Value} (h : Rd w A (vs ++ us)) : Rd w A vs := by
  intro j v hv
  exact h j v (by rw [List.getElem?_append_left (List.getElem?_eq_some_iff.1 hv).1]; exact hv)

/-- A list's numbers as values. -/
def iv (k : IntKind) (xs : List Int) : List Value := xs.map (Value.int k)
theorem iv_len (k : IntKind) (xs : List Int) : (iv k xs).length = xs.length := by simp [iv]
theorem iv_app (k : IntKind) (xs ys : List Int) : iv k (xs ++ ys) = iv k xs ++ iv k ys := by simp [iv]
theorem iv_take (k : IntKind) (xs : List Int) (n : Nat) : (iv k xs).take n = iv k (xs.take n) := by simp [iv, List.map_take]
theorem iv_drop (k : IntKind) (xs : List Int) (n : Nat) : (iv k xs).drop n = iv k (xs.drop n) := by simp [iv, List.map_drop]
theorem iv_one (k : IntKind) (xs : List Int) : ∀ u ∈ iv k xs, u.oneCell' = true := by
  intro u hu
  obtain ⟨_, _, rfl⟩ := List.mem_map.1 hu
  rfl
theorem iv_get (k : IntKind) (xs : List Int) (j : Nat) (h : j < xs.length) : (iv k xs)[j]? = some (.int k xs[j]) := by simp [iv, h]
/-- An element, as the walk asks for it. -/
def rd (xs : List Int) (i : Int) : Int := xs.getD i.toNat 0
theorem rd_nat (xs : List Int) (i : Nat) (h : i < xs.length) : rd xs (i : Int) = xs[i] := by simp [rd, h]
theorem Rd.int {w : World} {A : Option Addr} {k : IntKind} {xs : List Int} (h : Rd w A (iv k xs)) (i : Nat) (hi : i < xs.length) :
    ∃ a, A = some a ∧ w.cell? (a.add i) = some (.int k xs[i]) := h i _ (iv_get k xs i hi)

/-- Owned cells read. -/
theorem own_rd {w : World} {base : Nat} {e : TypeId} {size : Nat} {v : Value} {n : Nat} {xs : List Value} (h : w.ownsRow base e size v n xs) :
    ∃ A c, v = .slice A n c ∧ n ≤ c ∧ c ≤ maxLen ∧ Rd w A xs ∧ (A = none → c = 0) := by
  rcases h.2 with ⟨rfl, rfl⟩ | ⟨g, cap, cur, rfl, hb, hh, h1, h2, h3, h4⟩
  · have : xs = [] := List.eq_nil_of_length_eq_zero (by simpa using h.1)
    subst this
    exact ⟨none, 0, rfl, Nat.le_refl _, Nat.zero_le _, Rd.nil _ _, fun _ => rfl⟩
  · exact ⟨_, cap, rfl, h1, h2, fun j u hu => ⟨_, rfl, h.cells (g := g) rfl j u hu⟩, by simp⟩
theorem own_form {w : World} {base : Nat} {e : TypeId} {size : Nat} {v : Value} {n : Nat} {xs : List Value} (h : w.ownsRow base e size v n xs) (hn : 0 < n) :
    ∃ g cap, v = .slice (some ⟨g, 0, none⟩) n cap ∧ n ≤ cap ∧ cap ≤ 9223372036854775807 := by
  rcases h.2 with ⟨rfl, rfl⟩ | ⟨g, cap, cur, rfl, hb, hh, h1, h2, h3, h4⟩
  · omega
  · exact ⟨g, cap, rfl, h1, h2⟩
/-- A row cut short. -/
theorem own_take {w : World} {base : Nat} {e : TypeId} {v : Value} {g n m cap : Nat} {xs : List Value} (h : w.ownsRow base e 1 v n xs) (hv : v = .slice (some ⟨g, 0, none⟩) n cap) (hm : m ≤ n) :
    w.ownsRow base e 1 (.slice (some ⟨g, 0, none⟩) m cap) m (xs.take m) := by
  subst hv
  rcases h.2 with ⟨h1, _⟩ | ⟨g', cap', cur, h0, hb, hh, h1, h2, h3, h4⟩
  · cases h1
  · cases h0
    have hx : xs.length = n := by simpa using h.1
    refine ⟨by simp; omega, .inr ⟨g, cap, cur, rfl, hb, hh, by omega, h2, h3, ?_⟩⟩
    rw [← h4, List.take_take]
    congr 1
    omega
theorem own_lt {w : World} {base : Nat} {e : TypeId} {size : Nat} {v : Value} {n : Nat} {xs : List Value} (h : w.ownsRow base e size v n xs) (k : Nat) (hk : v.ownBlock = some k) : k < w.heap.size := (h.lt k hk).2
theorem own_base {w : World} {base base' : Nat} {e : TypeId} {size : Nat} {v : Value} {n : Nat} {xs : List Value} (h : w.ownsRow base e size v n xs) (hb : ∀ k, v.ownBlock = some k → base' ≤ k) : w.ownsRow base' e size v n xs := by
  refine ⟨h.1, ?_⟩
  rcases h.2 with h2 | ⟨g, cap, cur, rfl, _, r⟩
  · exact .inl h2
  · exact .inr ⟨g, cap, cur, rfl, hb g rfl, r⟩

theorem blk_alloc {w : World} {k : Nat} {o : Obj} (h : w.heap[k]? = some o) (x : Obj) : (w.alloc x).heap[k]? = some o := (Below.heap_alloc w x k (lt_of_block h)).trans h
theorem blk_set_far {w : World} {k : Nat} {o : Obj} (h : w.heap[k]? = some o) {a : Addr} (ha : k ≠ a.block) (u : Value) : (w.setCell a u).heap[k]? = some o := (heap_setCell_other w a k u ha).trans h
theorem blk_cell {w : World} {b : Nat} {cs : Array Value} {t : TypeId} (h : w.heap[b]? = some (.cells cs t (0, 0))) (j : Nat) {v : Value} (hv : cs[j]? = some v) : w.cell? ⟨b, j, none⟩ = some v := (cell_of_row w b j cs t (0, 0) h).trans hv
theorem ownBlock_slice (A : Option Addr) (n c : Nat) : (Value.slice A n c).ownBlock = A.map Addr.block := by cases A <;> rfl
theorem blk_free {w : World} {b : Nat} {cs : Array Value} {t : TypeId} (h : w.heap[b]? = some (.cells cs t (0, 0))) (j : Nat) : w.frozen? ⟨b, j, none⟩ = false := frozen_of_row w b j cs t h

/-- Where a slice's row lies: as before, or new. -/
def At (n : Nat) (g g' : Option Nat) : Prop := g' = g ∨ ∃ k, g' = some k ∧ n ≤ k
theorem At.low {n m : Nat} {g g' : Option Nat} (h : At n g g') (hm : m ≤ n) : At m g g' := by
  rcases h with h | ⟨k, h, hk⟩
  · exact .inl h
  · exact .inr ⟨k, h, by omega⟩
theorem At.refl (n : Nat) (g : Option Nat) : At n g g := .inl rfl
theorem At.trans {n m : Nat} {g g1 g2 : Option Nat} (h : At n g g1) (k : At m g1 g2) (hm : n ≤ m) : At n g g2 := by
  rcases k with rfl | ⟨k, rfl, hk⟩
  · exact h
  · exact .inr ⟨k, rfl, by omega⟩
theorem At.ge {n lo : Nat} {g g' : Option Nat} (h : At n g g') (hn : lo ≤ n) (hg : ∀ k, g = some k → lo ≤ k) : ∀ k, g' = some k → lo ≤ k := by
  intro k hk
  rcases h with rfl | ⟨j, rfl, hj⟩
  · exact hg k hk
  · have := Option.some.inj hk
    omega
theorem At.off {n : Nat} {g g' : Option Nat} (h : At n g g') {x : Nat} (hx : x < n) (hg : g ≠ some x) : g' ≠ some x := by
  rcases h with rfl | ⟨k, rfl, hk⟩
  · exact hg
  · intro e
    have := Option.some.inj e
    omega

/-- What a slice's address gives, none of it in the blocks S. -/
def RdS (S : List Nat) (w : World) (A : Option Addr) (vs : List Value) : Prop :=
  ∀ j v, vs[j]? = some v → ∃ a, A = some a ∧ a.block ∉ S ∧ w.cell? (a.add j) = some v
theorem RdS.rd {S : List Nat} {w : World} {A : Option Addr} {vs : List Value} (h : RdS S w A vs) : Rd w A vs := fun j v hv => by
  obtain ⟨a, h1, _, h2⟩ := h j v hv
  exact ⟨a, h1, h2⟩
theorem RdS.kp {S T : List Nat} {w w1 : World} {A : Option Addr} {vs : List Value} (h : RdS S w A vs) (k : Kp T w w1) (hT : ∀ x ∈ T, x ∈ S ∨ w.heap.size ≤ x) : RdS S w1 A vs := by
  intro j v hv
  obtain ⟨a, rfl, h1, h2⟩ := h j v hv
  have hl := World.block_lt_of_cell? w _ h2
  rw [add_block] at hl
  exact ⟨a, rfl, h1, k.cell h2 (by rw [add_block]; intro hm; rcases hT _ hm with h | h; exact h1 h; omega)⟩
theorem RdS.new {S : List Nat} {w w1 : World} {A : Option Addr} {vs : List Value} (h : Rd w A vs) (k : Kp [] w w1) (hS : ∀ x ∈ S, w.heap.size ≤ x) : RdS S w1 A vs := by
  intro j v hv
  obtain ⟨a, rfl, h2⟩ := h j v hv
  have hl := World.block_lt_of_cell? w _ h2
  rw [add_block] at hl
  exact ⟨a, rfl, fun hm => by have := hS _ hm; omega, k.cell h2 (by simp)⟩
theorem RdS.app {S : List Nat} {w : World} {A : Option Addr} {vs us : List Value} (h : RdS S w A (vs ++ us)) : RdS S w A vs := by
  intro j v hv
  exact h j v (by rw [List.getElem?_append_left (List.getElem?_eq_some_iff.1 hv).1]; exact hv)
theorem RdS.int {S : List Nat} {w : World} {A : Option Addr} {k : IntKind} {xs : List Int} (h : RdS S w A (iv k xs)) (i : Nat) (hi : i < xs.length) :
    ∃ a, A = some a ∧ w.cell? (a.add i) = some (.int k xs[i]) := h.rd.int i hi
theorem RdS.lit {S : List Nat} (w : World) (us : List Value) (t : TypeId) (hS : ∀ x ∈ S, x < w.heap.size) : RdS S (w.alloc (.cells us.toArray t)) (some ⟨w.heap.size, 0, none⟩) us := by
  intro j v hv
  refine ⟨_, rfl, fun hm => by have := hS _ hm; simp at this, ?_⟩
  rw [Addr.add_lit, World.cell?_alloc_new]
  simpa using hv

/-- A slice of rows of bytes, none of it in the blocks S. -/
def Rs (S : List Nat) (w : World) (A : Option Addr) (l : List (List Int)) : Prop :=
  ∀ j (h : j < l.length), ∃ a Aj cj, A = some a ∧ a.block ∉ S ∧ w.cell? (a.add j) = some (.slice Aj l[j].length cj) ∧ l[j].length ≤ cj ∧ (Aj = none → cj = 0) ∧ RdS S w Aj (iv .u8 l[j])
theorem Rs.kp {S T : List Nat} {w w1 : World} {A : Option Addr} {l : List (List Int)} (h : Rs S w A l) (k : Kp T w w1) (hT : ∀ x ∈ T, x ∈ S ∨ w.heap.size ≤ x) : Rs S w1 A l := by
  intro j hj
  obtain ⟨a, Aj, cj, rfl, h0, hc, h1, h2, h3⟩ := h j hj
  have hl := World.block_lt_of_cell? w _ hc
  rw [add_block] at hl
  exact ⟨a, Aj, cj, rfl, h0, k.cell hc (by rw [add_block]; intro hm; rcases hT _ hm with h | h; exact h0 h; omega), h1, h2, h3.kp k hT⟩
theorem Rs.new {S S' : List Nat} {w w1 : World} {A : Option Addr} {l : List (List Int)} (h : Rs S' w A l) (k : Kp [] w w1) (hS : ∀ x ∈ S, w.heap.size ≤ x) : Rs S w1 A l := by
  intro j hj
  obtain ⟨a, Aj, cj, rfl, h0, hc, h1, h2, h3⟩ := h j hj
  have hl := World.block_lt_of_cell? w _ hc
  rw [add_block] at hl
  exact ⟨a, Aj, cj, rfl, fun hm => by have := hS _ hm; omega, k.cell hc (by simp), h1, h2, RdS.new h3.rd k hS⟩

/-- a marked row, newly laid -/
theorem rds_mark {S : List Nat} (w : World) (us : List Value) (t : TypeId) (f : Nat × Nat) (hS : ∀ x ∈ S, x < w.heap.size) : RdS S (w.alloc (.cells us.toArray t f)) (some ⟨w.heap.size, 0, none⟩) us := by
  intro j v hv
  refine ⟨_, rfl, fun hm => by have := hS _ hm; simp at this, ?_⟩
  rw [Addr.add_lit]
  simp only [World.cell?, Nat.zero_add]
  rw [heap_alloc_new]
  simpa using hv
/-- one row, two rows, newly laid -/
theorem rs_one {S : List Nat} (w : World) (xs : List Int) (n : Nat) (hn : xs.length = n) (t u : TypeId) (f : Nat × Nat) (hS : ∀ x ∈ S, x < w.heap.size) :
    Rs S ((w.alloc (.cells (iv .u8 xs).toArray t f)).alloc (.cells #[.slice (some ⟨w.heap.size, 0, none⟩) n n] u)) (some ⟨w.heap.size + 1, 0, none⟩) [xs] := by
  subst hn
  intro j hj
  obtain rfl : j = 0 := by simpa using hj
  have k := (Kp.refl [] (w.alloc (.cells (iv .u8 xs).toArray t f))).alloc (.cells #[.slice (some ⟨w.heap.size, 0, none⟩) xs.length xs.length] u)
  refine ⟨_, _, _, rfl, fun hm => by have := hS _ hm; simp at this; omega, ?_, Nat.le_refl _, by simp, (rds_mark w (iv .u8 xs) t f hS).kp k (by simp)⟩
  rw [add_zero']
  simp
/-- a list of one row that is there -/
theorem rs_cell {S : List Nat} (w : World) (A : Option Addr) (xs : List Int) (n c : Nat) (hn : xs.length = n) (hc : n ≤ c) (hnil : A = none → c = 0) (u : TypeId) (hr : RdS S w A (iv .u8 xs)) (hS : ∀ x ∈ S, x < w.heap.size) :
    Rs S (w.alloc (.cells #[.slice A n c] u)) (some ⟨w.heap.size, 0, none⟩) [xs] := by
  subst hn
  intro j hj
  obtain rfl : j = 0 := by simpa using hj
  refine ⟨_, A, c, rfl, fun hm => by have := hS _ hm; simp at this, ?_, hc, hnil, hr.kp ((Kp.refl [] w).alloc _) (by simp)⟩
  rw [add_zero']
  simp
theorem rs_two {S : List Nat} (w : World) (xs ys : List Int) (n m : Nat) (hn : xs.length = n) (hm : ys.length = m) (t u : TypeId) (f f' : Nat × Nat) (hS : ∀ x ∈ S, x < w.heap.size) :
    Rs S (((w.alloc (.cells (iv .u8 xs).toArray t f)).alloc (.cells (iv .u8 ys).toArray t f')).alloc (.cells #[.slice (some ⟨w.heap.size, 0, none⟩) n n, .slice (some ⟨w.heap.size + 1, 0, none⟩) m m] u)) (some ⟨w.heap.size + 1 + 1, 0, none⟩) [xs, ys] := by
  subst hn hm
  intro j hj
  have hS1 : ∀ x ∈ S, x < (w.alloc (.cells (iv .u8 xs).toArray t f)).heap.size := fun x hx => by have := hS x hx; simp; omega
  have k1 := (Kp.refl [] (w.alloc (.cells (iv .u8 xs).toArray t f))).alloc (.cells (iv .u8 ys).toArray t f')
  have k2 := (Kp.refl [] ((w.alloc (.cells (iv .u8 xs).toArray t f)).alloc (.cells (iv .u8 ys).toArray t f'))).alloc (.cells #[.slice (some ⟨w.heap.size, 0, none⟩) xs.length xs.length, .slice (some ⟨w.heap.size + 1, 0, none⟩) ys.length ys.length] u)
  have hc := World.cell?_alloc_new ((w.alloc (.cells (iv .u8 xs).toArray t f)).alloc (.cells (iv .u8 ys).toArray t f')) #[.slice (some ⟨w.heap.size, 0, none⟩) xs.length xs.length, .slice (some ⟨w.heap.size + 1, 0, none⟩) ys.length ys.length] u j
  have hz : ((w.alloc (.cells (iv .u8 xs).toArray t f)).alloc (.cells (iv .u8 ys).toArray t f')).heap.size = w.heap.size + 1 + 1 := by simp
  rw [hz] at hc
  match j, hj, hc with
  | 0, hj, hc => exact ⟨_, _, _, rfl, fun hm => by have := hS _ hm; simp at this; omega, by rw [add_zero']; exact hc, Nat.le_refl _, by simp, ((rds_mark w (iv .u8 xs) t f hS).kp k1 (by simp)).kp k2 (by simp)⟩
  | 1, hj, hc => exact ⟨_, _, _, rfl, fun hm => by have := hS _ hm; simp at this; omega, by rw [Addr.add_lit]; exact hc, Nat.le_refl _, by simp, by
      have := (rds_mark (w.alloc (.cells (iv .u8 xs).toArray t f)) (iv .u8 ys) t f' hS1).kp k2 (by simp)
      simpa using this⟩

/-- A row of numbers of the call's own, whose block is none of those below lo. -/
def Own (e : TypeId) (k : IntKind) (w : World) (lo : Nat) (v : Value) (xs : List Int) : Prop := w.ownsRow 0 e 1 v xs.length (iv k xs) ∧ ∀ g, v.ownBlock = some g → lo ≤ g
/-- Such a row is handed back; nothing that was there has turned. -/
def RetOwn (e : TypeId) (k : IntKind) (w : World) (xs : List Int) (en : Ending) (w' : World) : Prop := ∃ v, en = .returned v ∧ Own e k w' w.heap.size v xs ∧ Kp [] w w'
theorem Own.nil (e : TypeId) (k : IntKind) (w : World) (lo : Nat) : Own e k w lo (.slice none 0 0) [] := ⟨World.ownsRow_nil w 0 e 1, by intro g hg; simp [Value.ownBlock] at hg⟩
theorem Own.lower {e : TypeId} {k : IntKind} {w : World} {lo lo' : Nat} {v : Value} {xs : List Int} (h : Own e k w lo v xs) (hl : lo' ≤ lo) : Own e k w lo' v xs := ⟨h.1, fun g hg => Nat.le_trans hl (h.2 g hg)⟩
theorem Own.kp {e : TypeId} {k : IntKind} {w w1 : World} {lo : Nat} {v : Value} {xs : List Int} {S : List Nat} (h : Own e k w lo v xs) (hk : Kp S w w1) (hS : ∀ g, v.ownBlock = some g → g ∉ S) : Own e k w1 lo v xs := ⟨hk.own h.1 hS, h.2⟩
/-- An append onto an empty row newly laid. -/
theorem kp_of_new {w w1 : World} {o : Obj} (k : Kp (Value.slice (some ⟨w.heap.size, 0, none⟩) 0 0).ownBlock.toList (w.alloc o) w1) : Kp [] w w1 :=
  ((Kp.refl [] w).alloc o).trans k (by simp [Value.ownBlock])
theorem own_of_app {e : TypeId} {k : IntKind} {w1 : World} {v v1 : Value} {m n lo : Nat} {ys : List Int} (hm : ys.length = m) (o : w1.ownsRow 0 e 1 v1 (0 + m) ([] ++ iv k ys)) (a : At n v.ownBlock v1.ownBlock) (hn : lo ≤ n)
    (hv : ∀ g, v.ownBlock = some g → lo ≤ g) : Own e k w1 lo v1 ys := ⟨by rw [hm]; simpa using o, a.ge hn hv⟩
theorem one_cell {e : TypeId} {k : IntKind} {w : World} {lo g n cap : Nat} {c : Int} (h : Own e k w lo (.slice (some ⟨g, 0, none⟩) n cap) [c]) : w.cell? ⟨g, 0, none⟩ = some (.int k c) := by
  obtain ⟨A, c', hv, _, _, hr, _⟩ := own_rd h.1
  cases hv
  obtain ⟨a, ha, hc⟩ := hr 0 _ rfl
  cases ha
  rwa [add_zero'] at hc
theorem rd_nil_of_none {w : World} {vs : List Value} (h : Rd w none vs) : vs = [] := by
  cases vs with
  | nil => rfl
  | cons x r => obtain ⟨a, ha, _⟩ := h 0 x rfl; cases ha
theorem iv_nil {k : IntKind} {xs : List Int} (h : iv k xs = []) : xs = [] := by simpa [iv] using h

theorem Own.rds {e : TypeId} {w : World} {lo : Nat} {A : Option Addr} {n c : Nat} {xs : List Int} {S : List Nat} (h : Own e .u8 w lo (.slice A n c) xs) (hS : ∀ x ∈ S, x < lo) : RdS S w A (iv .u8 xs) := by
  obtain ⟨A', c', hv, _, _, hr, _⟩ := own_rd h.1
  cases hv
  intro j v hv
  obtain ⟨a, rfl, hc⟩ := hr j v hv
  exact ⟨a, rfl, fun hm => by have := hS _ hm; have := h.2 a.block rfl; omega, hc⟩
theorem Own.len {e : TypeId} {k : IntKind} {w : World} {lo : Nat} {A : Option Addr} {n c : Nat} {xs : List Int} (h : Own e k w lo (.slice A n c) xs) : xs.length = n := by
  rcases h.1.2 with ⟨h1, h2⟩ | ⟨g, cap, cur, h1, _⟩
  · cases h1; exact h2
  · cases h1; rfl
/-- bytes -/
def Wf (xs : List Int) : Prop := ∀ x ∈ xs, 0 ≤ x ∧ x < 256
theorem Wf.drop {xs : List Int} (h : Wf xs) (n : Nat) : Wf (xs.drop n) := fun x hx => h x (List.mem_of_mem_drop hx)
theorem Wf.take {xs : List Int} (h : Wf xs) (n : Nat) : Wf (xs.take n) := fun x hx => h x (List.mem_of_mem_take hx)
theorem Wf.nil : Wf [] := fun x hx => by simp at hx

end Go.Proofs.Ytiabdeciadfiiaa.H

/- append onto a row of the call's own, whatever is appended (nil, empty or not): the row's place afterwards is the old one or a new one. -/
namespace Go.Proofs.Ytiabdeciadfiiaa.H
open Go.RowKit

theorem run_app {P : Program} (w : World) (t ty e : TypeId) (z : Value) (size bytes : Nat) (ht : P.underlying t = some (.slice e))
    (hI : (P.info? e).map (fun i => (i.zero, i.size, i.bytes)) = some (some z, size, bytes)) (hzs : z.cells.size = size) (hsz : 0 < size)
    (v : Value) (n : Nat) (xs : List Value) (hown : w.ownsRow 0 e size v n xs)
    (A : Option Addr) (m c : Nat) (news : List Value) (hl : news.length = m * size) (hrd : Rd w A news) (hnil : A = none → c = 0) (h1 : ∀ u ∈ news, u.oneCell' = true)
    (hb : (n + m) * bytes ≤ 140737488355328) (hm : n + m ≤ 140737488355328) :
    ∃ v' w', (Builtin.append_ #[t, t] ty #[v, .slice A m c]).run P w = .ok v' w' ∧ w'.ownsRow 0 e size v' (n + m) (xs ++ news) ∧ Kp v.ownBlock.toList w w' ∧
      At w.heap.size v.ownBlock v'.ownBlock ∧ (v' = .slice none 0 0 → v = .slice none 0 0) := by
  obtain ⟨i, hi, hz, hs, hby⟩ := info_parts hI
  have h63 : n + m ≤ maxLen := by unfold maxLen; omega
  cases A with
  | none =>
    have hc := hnil rfl
    have hn0 : news = [] := by
      cases news with
      | nil => rfl
      | cons x r => obtain ⟨a, ha, _⟩ := hrd 0 x rfl; cases ha
    subst hn0
    have hm0 : m = 0 := by
      rcases Nat.eq_zero_or_pos m with h | h
      · exact h
      · have : 0 < m * size := Nat.mul_pos h hsz
        simp at hl
        omega
    subst hm0 hc
    exact ⟨v, w, run_append_owned_none w 0 t ty e i size ht hi v n xs hown, by simpa using hown, Kp.refl _ _, At.refl _ _, fun h => h⟩
  | some a =>
    have hnews : ∀ j u, news[j]? = some u → w.cell? (a.add j) = some u := by
      intro j u hu
      obtain ⟨a', ha, hc⟩ := hrd j u hu
      cases ha
      exact hc
    obtain ⟨v', w', hr, h2, h3, h4⟩ := run_append_own (P := P) w 0 t ty e i z size bytes ht hi hz hs hby hzs hsz v n xs hown a m c news hl hnews h1 h63 hb (Nat.zero_le _)
    refine ⟨v', w', hr, h2, (Kp.refl _ w).grown h3 (fun k hk => .inl (by simp [hk])), ?_, fun h => (h4.1 h).1⟩
    rcases hown.2 with ⟨rfl, rfl⟩ | ⟨g, cap, cur, rfl, hbg, hg, hnc, hcm, hcs, htake⟩
    · rcases Nat.eq_zero_or_pos m with hm0 | hm0
      · rw [h4.2 ⟨rfl, hm0⟩]
        exact .inl rfl
      · have hr2 := run_append_nil (P := P) w t ty e i z ht hi hz a m c news (by rw [hs]; exact hl) hnews hm0 (by omega) (by rw [hby]; have := hb; simp only [Nat.zero_add] at this; omega)
        rw [hr2] at hr
        injection hr with e1 e2
        subst e1
        exact .inr ⟨_, rfl, Nat.le_refl _⟩
    · by_cases hroom : n + m ≤ cap
      · obtain ⟨w2, hr2, _⟩ := run_append_fits (P := P) w 0 t ty e i size ht hi hs g n cap xs hown a m c news hl hnews h1 hroom
        rw [hr2] at hr
        injection hr with e1 e2
        subst e1
        exact .inl rfl
      · have hr2 := run_append_grow (P := P) w t ty e i z ht hi hz ⟨g, 0, none⟩ n cap xs (by rw [hs]; exact hown.1) (hown.cells (g := g) rfl) a m c news (by rw [hs]; exact hl) hnews (by omega) (by omega)
          (growslice_fits (by omega) (by rw [hby]; exact hb))
        rw [hr2] at hr
        injection hr with e1 e2
        subst e1
        exact .inr ⟨_, rfl, Nat.le_refl _⟩

theorem wpList_app {P : Program} {w : World} {ops : Array Oper} {rest : List Oper} {o : Oper} {a : Act} {Q : Exit → Act → World → Prop} (hgd : o.guard = none) (s x : Operand) (t : TypeId)
    (ho : o.op = .call { callee := .builtin .append, args := #[s, x], argTypes := #[t, t] }) (e : TypeId) (z : Value) (size bytes : Nat) (ht : P.underlying t = some (.slice e))
    (hI : (P.info? e).map (fun i => (i.zero, i.size, i.bytes)) = some (some z, size, bytes)) (hzs : z.cells.size = size) (hsz : 0 < size)
    (v : Value) (n : Nat) (xs : List Value) (hs : a.eval s = v) (hown : w.ownsRow 0 e size v n xs)
    (A : Option Addr) (m c : Nat) (news : List Value) (hx : a.eval x = .slice A m c) (hl : news.length = m * size) (hrd : Rd w A news) (hnil : A = none → c = 0) (h1 : ∀ u ∈ news, u.oneCell' = true)
    (hb : (n + m) * bytes ≤ 140737488355328) (hm : n + m ≤ 140737488355328)
    (h : ∀ v' w', w'.ownsRow 0 e size v' (n + m) (xs ++ news) → Kp v.ownBlock.toList w w' → At w.heap.size v.ownBlock v'.ownBlock → (v' = .slice none 0 0 → v = .slice none 0 0) →
      wpList P ops Q rest (a.put o.dst v') w') : wpList P ops Q (o :: rest) a w := by
  refine wpList_plain hgd fun K hK => ?_
  obtain ⟨v', w', hr, h2, h3, h4, h5⟩ := run_app (P := P) w t o.type e z size bytes ht hI hzs hsz v n xs hown A m c news hl hrd hnil h1 hb hm
  unfold Oper.wp execOp
  simp only [ho, resolve, invoke, builtin, Sem.run_bind, Sem.run_pure, Result.andThen_ok, List.map_toArray, List.map_cons, List.map_nil, hs, hx, hr]
  exact hK _ _ (h v' w' h2 h3 h4 h5)

theorem or128_fin : ∀ b : Fin 256, bits .or .u8 ((b.val : Nat) : Int) 128 = ((b.val % 128 + 128 : Nat) : Int) := by decide +kernel
theorem or128 (u : Nat) : bits .or .u8 ((u : Int) % 256) 128 = (u : Int) % 128 + 128 := by
  have h := or128_fin ⟨u % 256, Nat.mod_lt _ (by decide)⟩
  have e1 : (((u % 256 : Nat)) : Int) = (u : Int) % 256 := by omega
  have e2 : ((u % 256 % 128 + 128 : Nat) : Int) = (u : Int) % 128 + 128 := by omega
  simp only [e1, e2] at h
  exact h

theorem and127 (y : Int) (h0 : 0 ≤ y) (h1 : y < 256) : bits .and .u8 y 127 = y % 128 := bits_mask .u8 8 (by decide) wraps_u8 7 (by decide) y h0 h1
theorem wraps_u64 (n : Int) (h0 : 0 ≤ n) (h1 : n < 2 ^ 63) : IntKind.u64.wrap n = n := by rw [IntKind.wrap_u64]; omega
theorem or_comm' (k : IntKind) (a b : Int) : bits .or k a b = bits .or k b a := by simp only [bits, BitVec.or_comm]
theorem and127_u64 (u : Nat) (h : u ≤ 4611686018427387904) : bits .and .u64 (u : Int) 127 = (u : Int) % 128 := bits_mask .u64 63 (by decide) wraps_u64 7 (by decide) u (by omega) (by omega)
theorem or128' (u : Nat) (h : u ≤ 4611686018427387904) : bits .or .u8 (bits .and .u64 (u : Int) 127 % 256) 128 = (u : Int) % 128 + 128 := by
  rw [and127_u64 u h]
  have := or128 (u % 128)
  have e : ((u % 128 : Nat) : Int) = (u : Int) % 128 := by omega
  rw [e] at this
  rw [this]
  omega
/-- A digit more of a number. -/
theorem num_bits (u k : Nat) (y : Int) (h0 : 0 ≤ y) (h1 : y < 256) (hk : k ≤ 8) (hu : u < 128 ^ k) :
    bits .or .u64 (u : Int) (IntKind.u64.wrap (IntKind.u64.wrap (bits .and .u8 y 127) * 2 ^ (7 * k))) = ((u + y.toNat % 128 * 128 ^ k : Nat) : Int) := by
  have hp : (2 : Nat) ^ (7 * k) = 128 ^ k := by rw [Nat.pow_mul]
  have hpi : (2 : Int) ^ (7 * k) = ((128 ^ k : Nat) : Int) := by rw [← hp]; simp
  have hle : (128 : Nat) ^ k ≤ 128 ^ 8 := Nat.pow_le_pow_right (by decide) hk
  have h8 : (128 : Nat) ^ 8 = 72057594037927936 := by decide
  have e1 : IntKind.u64.wrap (y % 128) = ((y.toNat % 128 : Nat) : Int) := by rw [wraps_u64 _ (by omega) (by omega)]; omega
  have hm : y.toNat % 128 * 128 ^ k < 9223372036854775808 := by
    have : y.toNat % 128 * 128 ^ k ≤ 127 * 72057594037927936 := Nat.mul_le_mul (by omega) (by omega)
    omega
  have e2 : ((y.toNat % 128 : Nat) : Int) * ((128 ^ k : Nat) : Int) = ((y.toNat % 128 * 128 ^ k : Nat) : Int) := by rw [Int.natCast_mul]
  rw [and127 y h0 h1, e1, hpi, e2, wraps_u64 _ (by omega) (by omega), or_comm',
    bits_join .u64 63 (by decide) wraps_u64 (7 * k) _ _ (by omega) (by rw [hpi, ← e2]; exact Int.mul_emod_left _ _) (by omega) (by omega) (by rw [hpi]; omega) (by omega)]
  omega

/-- one cell, newly laid -/
theorem rd_one (w : World) (u : Value) (t : TypeId) : Rd (w.alloc (.cells #[u] t)) (some ⟨w.heap.size, 0, none⟩) [u] := by
  intro j v hv
  match j, hv with
  | 0, hv => simp at hv; subst hv; exact ⟨_, rfl, by simp [Addr.add]⟩
theorem rd_new (w : World) (us : List Value) (t : TypeId) : Rd (w.alloc (.cells us.toArray t)) (some ⟨w.heap.size, 0, none⟩) us := by
  intro j v hv
  refine ⟨_, rfl, ?_⟩
  rw [Addr.add_lit, World.cell?_alloc_new]
  simpa using hv
/-- a row of the call's own, newly laid -/
theorem own_new (w : World) (us : List Value) (e : TypeId) (hl : us.length ≤ maxLen) : (w.alloc (.cells us.toArray e)).ownsRow 0 e 1 (.slice (some ⟨w.heap.size, 0, none⟩) us.length us.length) us.length us := by
  have := World.ownsRow_lit (base := 0) (e := e) (size := 1) w us.toArray us.length (Nat.zero_le _) hl (by simp)
  simpa using this

end Go.Proofs.Ytiabdeciadfiiaa.H

/- Numbers as bytes, and back: the plain mathematics of chapter 1. No program in sight. -/
namespace Go.Proofs.Ytiabdeciadfiiaa.O

/-- A number as it is laid: from 0 to 2^62. -/
def cl (n : Int) : Nat := if n < 0 then 0 else if 4611686018427387904 < n then 4611686018427387904 else n.toNat
theorem cl_le (n : Int) : cl n ≤ 4611686018427387904 := by unfold cl; split <;> (try split) <;> omega
theorem cl_of {n : Int} (h0 : 0 ≤ n) (h1 : n ≤ 4611686018427387904) : (cl n : Int) = n := by unfold cl; split <;> (try split) <;> omega

theorem cl_if (x : Int) : (if min x 4611686018427387904 > 0 then min x 4611686018427387904 else 0) = (cl x : Int) := by
  unfold cl
  split <;> split <;> (try split) <;> omega
/-- Seven binary digits a byte. -/
def enc (u : Nat) : List Int := if u < 128 then [(u : Int)] else ((u : Int) % 128 + 128) :: enc (u / 128)
termination_by u
decreasing_by omega
theorem enc_lo {u : Nat} (h : u < 128) : enc u = [(u : Int)] := by rw [enc, if_pos h]
theorem enc_hi {u : Nat} (h : ¬ u < 128) : enc u = ((u : Int) % 128 + 128) :: enc (u / 128) := by rw [enc, if_neg h]

theorem enc_len : ∀ (k u : Nat), u < 128 ^ (k + 1) → (enc u).length ≤ k + 1
  | 0, u, h => by rw [enc_lo (by simpa using h)]; simp
  | k + 1, u, h => by
    by_cases h1 : u < 128
    · rw [enc_lo h1]; simp
    · rw [enc_hi h1]
      have := enc_len k (u / 128) (by rw [Nat.pow_succ] at h; omega)
      simp only [List.length_cons]
      omega
theorem enc_pos (u : Nat) : 0 < (enc u).length := by
  by_cases h : u < 128
  · rw [enc_lo h]; simp
  · rw [enc_hi h]; simp
theorem enc_u8 (u : Nat) : ∀ x ∈ enc u, 0 ≤ x ∧ x < 256 := by
  induction u using Nat.strongRecOn with
  | _ u ih =>
    by_cases h : u < 128
    · rw [enc_lo h]; intro x hx; simp at hx; omega
    · rw [enc_hi h]
      intro x hx
      rcases List.mem_cons.1 hx with rfl | hx
      · omega
      · exact ih (u / 128) (by omega) x hx

def num (n : Int) : List Int := enc (cl n)
def nums (l : List Int) : List Int := l.flatMap num
def row (x : List Int) : List Int := num x.length ++ x
def rows (l : List (List Int)) : List Int := l.flatMap row

theorem num_len (n : Int) : (num n).length ≤ 9 := enc_len 8 _ (by have := cl_le n; omega)
theorem num_pos (n : Int) : 0 < (num n).length := enc_pos _
theorem num_u8 (n : Int) : ∀ x ∈ num n, 0 ≤ x ∧ x < 256 := enc_u8 _
theorem nums_cons (n : Int) (l : List Int) : nums (n :: l) = num n ++ nums l := by simp [nums]
theorem nums_app (a b : List Int) : nums (a ++ b) = nums a ++ nums b := by simp [nums]
theorem nums_one (n : Int) : nums [n] = num n := by simp [nums]
theorem nums_nil : nums [] = [] := rfl
theorem nums_len (l : List Int) : (nums l).length ≤ 9 * l.length := by
  induction l with
  | nil => simp [nums]
  | cons x l ih => rw [nums_cons, List.length_append, List.length_cons]; have := num_len x; omega
theorem nums_u8 (l : List Int) : ∀ x ∈ nums l, 0 ≤ x ∧ x < 256 := by
  intro x hx
  obtain ⟨n, _, h⟩ := List.mem_flatMap.1 hx
  exact num_u8 n x h
theorem take_succ' {α : Type} (l : List α) (k : Nat) (h : k < l.length) : l.take (k + 1) = l.take k ++ [l[k]] := List.take_succ_eq_append_getElem h
theorem nums_step (l : List Int) (k : Nat) (h : k < l.length) : nums (l.take (k + 1)) = nums (l.take k) ++ num l[k] := by
  rw [take_succ' l k h, nums_app, nums_one]
theorem rows_app (a b : List (List Int)) : rows (a ++ b) = rows a ++ rows b := by simp [rows]
theorem rows_one (x : List Int) : rows [x] = row x := by simp [rows]
theorem rows_cons (x : List Int) (l : List (List Int)) : rows (x :: l) = row x ++ rows l := by simp [rows]
theorem rows_step (l : List (List Int)) (k : Nat) (h : k < l.length) : rows (l.take (k + 1)) = rows (l.take k) ++ row l[k] := by
  rw [take_succ' l k h, rows_app, rows_one]
theorem rows_len (l : List (List Int)) : (rows l).length ≤ 9 * l.length + l.flatten.length := by
  induction l with
  | nil => simp [rows]
  | cons x l ih =>
    rw [rows_cons, List.length_append, List.length_cons, List.flatten_cons, List.length_append]
    have h : (row x).length = (num x.length).length + x.length := by rw [row, List.length_append]
    have := num_len x.length
    omega
theorem rows_len_take (l : List (List Int)) (k : Nat) (h : k < l.length) : (rows (l.take k)).length + 9 + l[k].length ≤ 9 * l.length + l.flatten.length := by
  have h1 := rows_len (l.take k)
  have h2 : (l.take (k + 1)).flatten.length + (l.drop (k + 1)).flatten.length = l.flatten.length := by
    rw [← List.length_append, ← List.flatten_append, List.take_append_drop]
  rw [take_succ' l k h, List.flatten_append, List.length_append] at h2
  simp only [List.flatten_cons, List.flatten_nil, List.append_nil, List.length_take] at h1 h2
  omega
theorem row_u8 (x : List Int) (h : ∀ c ∈ x, 0 ≤ c ∧ c < 256) : ∀ c ∈ row x, 0 ≤ c ∧ c < 256 := by
  intro c hc
  rcases List.mem_append.1 hc with hc | hc
  · exact num_u8 _ c hc
  · exact h c hc

/-- A number is taken: from byte i on, u so far. -/
def decF : Nat → Nat → List Int → Option (Nat × List Int)
  | _, _, [] => none
  | i, u, c :: r =>
    if 9 ≤ i ∨ (0 < i ∧ c = 0) then none
    else if c < 128 then (if 4611686018427387904 < u + c.toNat * 128 ^ i then none else some (u + c.toNat * 128 ^ i, r))
    else decF (i + 1) (u + (c.toNat - 128) * 128 ^ i) r
def dec (l : List Int) : Option (Nat × List Int) := decF 0 0 l

theorem split128 (u v p : Nat) : u + v % 128 * p + v / 128 * (p * 128) = u + v * p := by
  have h1 : v / 128 * (p * 128) = 128 * (v / 128 * p) := by rw [← Nat.mul_assoc, Nat.mul_comm]
  have h2 : v * p = 128 * (v / 128 * p) + v % 128 * p := by
    have h3 : (128 * (v / 128) + v % 128) * p = 128 * (v / 128 * p) + v % 128 * p := by rw [Nat.add_mul, Nat.mul_assoc]
    rwa [Nat.div_add_mod] at h3
  omega
theorem decF_enc : ∀ (v i u : Nat) (r : List Int), (i = 0 ∨ 0 < v) → u + v * 128 ^ i ≤ 4611686018427387904 → decF i u (enc v ++ r) = some (u + v * 128 ^ i, r) := by
  intro v
  induction v using Nat.strongRecOn with
  | _ v ih =>
    intro i u r hv hb
    have hi : ¬ 9 ≤ i := by
      intro h9
      rcases hv with h | h
      · omega
      · have : 128 ^ 9 ≤ 128 ^ i := Nat.pow_le_pow_right (by decide) h9
        have h2 : 1 * 128 ^ i ≤ v * 128 ^ i := Nat.mul_le_mul_right _ h
        have h3 : (128 : Nat) ^ 9 = 9223372036854775808 := by decide
        omega
    by_cases h : v < 128
    · rw [enc_lo h]
      simp only [List.cons_append, List.nil_append, decF]
      rw [if_neg (by omega), if_pos (by omega)]
      simp only [Int.toNat_natCast]
      rw [if_neg (by omega)]
    · rw [enc_hi h]
      simp only [List.cons_append, decF]
      rw [if_neg (by omega), if_neg (by omega)]
      have e1 : ((v : Int) % 128 + 128).toNat - 128 = v % 128 := by omega
      rw [e1]
      have hp : 128 ^ (i + 1) = 128 ^ i * 128 := Nat.pow_succ ..
      have e2 : u + v % 128 * 128 ^ i + v / 128 * 128 ^ (i + 1) = u + v * 128 ^ i := by rw [hp]; exact split128 u v (128 ^ i)
      rw [ih (v / 128) (by omega) (i + 1) _ r (.inr (by omega)) (by rw [e2]; exact hb), e2]
theorem decF_enc0 (v : Nat) (r : List Int) (h : v ≤ 4611686018427387904) : decF 0 0 (enc v ++ r) = some (v, r) := by
  have e : 0 + v * 128 ^ 0 = v := by rw [Nat.pow_zero, Nat.mul_one, Nat.zero_add]
  have h0 : 0 + v * 128 ^ 0 ≤ 4611686018427387904 := Nat.le_trans (Nat.le_of_eq e) h
  exact (decF_enc v 0 0 r (.inl rfl) h0).trans (congrArg (fun x => some (x, r)) e)
theorem dec_num (n : Int) (r : List Int) : dec (num n ++ r) = some (cl n, r) := decF_enc0 (cl n) r (cl_le n)

theorem decF_bd : ∀ (l : List Int) (i u v : Nat) (r : List Int), decF i u l = some (v, r) → v ≤ 4611686018427387904 ∧ ∃ p, l = p ++ r ∧ p ≠ []
  | [], i, u, v, r, h => by simp [decF] at h
  | c :: l, i, u, v, r, h => by
    simp only [decF] at h
    split at h
    · cases h
    · split at h
      · split at h
        · cases h
        · simp only [Option.some.injEq, Prod.mk.injEq] at h
          obtain ⟨rfl, rfl⟩ := h
          exact ⟨by omega, [c], by simp⟩
      · obtain ⟨h1, p, rfl, h2⟩ := decF_bd l _ _ v r h
        exact ⟨h1, c :: p, by simp⟩
theorem dec_bd {l : List Int} {v : Nat} {r : List Int} (h : dec l = some (v, r)) : v ≤ 4611686018427387904 := (decF_bd l 0 0 v r h).1
theorem dec_suffix {l : List Int} {v : Nat} {r : List Int} (h : dec l = some (v, r)) : ∃ p, l = p ++ r ∧ p ≠ [] := (decF_bd l 0 0 v r h).2

/-! What a Reader holds: the bytes that are left, or nothing: it erred. -/
def stNum (s : Option (List Int)) : Nat × Option (List Int) :=
  match s with
  | none => (0, none)
  | some l => match dec l with
    | none => (0, none)
    | some (v, r) => (v, some r)
def stRaw (n : Int) (s : Option (List Int)) : List Int × Option (List Int) :=
  match s with
  | none => ([], none)
  | some l => if n < 0 ∨ (l.length : Int) < n then ([], none) else (l.take n.toNat, some (l.drop n.toNat))
def stBytes (s : Option (List Int)) : List Int × Option (List Int) := stRaw (stNum s).1 (stNum s).2
def stNums : Nat → Option (List Int) → List Int × Option (List Int)
  | 0, s => ([], s)
  | k + 1, s => (((stNum s).1 : Int) :: (stNums k (stNum s).2).1, (stNums k (stNum s).2).2)
def left (s : Option (List Int)) : List Int := s.getD []

theorem stNum_num (n : Int) (r : List Int) : stNum (some (num n ++ r)) = (cl n, some r) := by simp [stNum, dec_num]
theorem stBytes_row (x r : List Int) (hx : x.length ≤ 4611686018427387904) : stBytes (some (row x ++ r)) = (x, some r) := by
  have e : (cl x.length : Int) = x.length := cl_of (by omega) (by omega)
  simp only [stBytes, row, List.append_assoc, stNum_num, stRaw]
  rw [if_neg (by rw [e]; simp only [List.length_append]; omega), e]
  simp

end Go.Proofs.Ytiabdeciadfiiaa.O

/- bytes.Clone: the same bytes in new memory. -/
namespace Go.Proofs.Ytiabdeciadfiiaa.clone
open Go.RowKit H

theorem info_u8 : (Try.prog.info? 5).map (fun i => (i.zero, i.size, i.bytes)) = some (some (.int .u8 0), 1, 1) := by kernel_rfl

/-- append onto a row of bytes of the call's own -/
theorem app8 {w : World} {ops : Array Oper} {rest : List Oper} {o : Oper} {a : Act} {Q : Exit → Act → World → Prop} (hgd : o.guard = none) (s x : Operand)
    (ho : o.op = .call { callee := .builtin .append, args := #[s, x], argTypes := #[26, 26] })
    (v : Value) (n : Nat) (xs : List Value) (hs : a.eval s = v) (hown : w.ownsRow 0 5 1 v n xs)
    (A : Option Addr) (m c : Nat) (news : List Value) (hx : a.eval x = .slice A m c) (hl : news.length = m) (hrd : Rd w A news) (hnil : A = none → c = 0) (h1 : ∀ u ∈ news, u.oneCell' = true)
    (hm : n + m ≤ 140737488355328)
    (h : ∀ v' w', w'.ownsRow 0 5 1 v' (n + m) (xs ++ news) → Kp v.ownBlock.toList w w' → At w.heap.size v.ownBlock v'.ownBlock →
      wpList Try.prog ops Q rest (a.put o.dst v') w') : wpList Try.prog ops Q (o :: rest) a w :=
  wpList_app hgd s x 26 ho 5 (.int .u8 0) 1 1 Try.underlying26 info_u8 rfl (by decide) v n xs hs hown A m c news hx (by rw [hl, Nat.mul_one]) hrd hnil h1 (by rw [Nat.mul_one]; exact hm) hm
    (fun v' w' h1 h2 h3 _ => h v' w' h1 h2 h3)
/-- the same of one byte -/
theorem app8_one {w : World} {ops : Array Oper} {rest : List Oper} {o : Oper} {a : Act} {Q : Exit → Act → World → Prop} (hgd : o.guard = none) (s x : Operand)
    (ho : o.op = .call { callee := .builtin .append, args := #[s, x], argTypes := #[26, 26] })
    (v : Value) (n : Nat) (xs : List Value) (hs : a.eval s = v) (hown : w.ownsRow 0 5 1 v n xs) (y : Int)
    (hx : a.eval x = .slice (some ⟨w.heap.size, 0, none⟩) 1 1) (hm : n + 1 ≤ 140737488355328)
    (h : ∀ v' w', w'.ownsRow 0 5 1 v' (n + 1) (xs ++ [.int .u8 y]) → Kp v.ownBlock.toList (w.alloc (.cells #[.int .u8 y] 5)) w' → At (w.heap.size + 1) v.ownBlock v'.ownBlock →
      wpList Try.prog ops Q rest (a.put o.dst v') w') : wpList Try.prog ops Q (o :: rest) a (w.alloc (.cells #[.int .u8 y] 5)) :=
  app8 hgd s x ho v n xs hs (hown.alloc _) (some ⟨w.heap.size, 0, none⟩) 1 1 [.int .u8 y] hx rfl (rd_one _ _ _) (by simp) (by simp [Value.oneCell']) hm
    (fun v' w' h1 h2 h3 => h v' w' h1 h2 (by simpa using h3))

set_option maxHeartbeats 1000000 in
theorem clone_any (A : Option Addr) (n c : Nat) (xs : List Int) (w : World) (hn : xs.length = n) (h0 : Rd w A (iv .u8 xs)) (hnil : A = none → c = 0) (hb : n ≤ 140737488355328) :
    Calls Try.prog 67 #[.slice A n c] w (RetOwn 5 .u8 w xs) := by
  subst hn
  have H0 := As.mk h0
  have HN := As.mk hnil
  clear h0 hnil
  cases A with
  | none =>
    have hx : xs = [] := iv_nil (rd_nil_of_none H0.out)
    subst hx
    have hc := HN.out rfl
    subst hc
    have hq := fun (w : World) => Lib.run_eql_slice_nil (P := Try.prog) w 26 5 none 0 0 0 0 Try.underlying26
    go_enter Try.func67, Try.ntmps67
    go_wp2
    go_ret
    exact ⟨_, rfl, Own.nil _ _ _ _, Kp.refl _ _⟩
  | some a =>
    have hq := fun (w : World) => Lib.run_eql_slice_nil (P := Try.prog) w 26 5 (some a) xs.length c 0 0 Try.underlying26
    go_enter Try.func67, Try.ntmps67
    go_wp2_with (at_builtin; refine app8 rfl (.tmp 5) (.tmp 6) rfl (.slice (some ⟨w.heap.size, 0, none⟩) 0 0) 0 [] rfl (own_new w [] _ (Nat.zero_le _)) (some a) xs.length c (iv .u8 xs) rfl (iv_len _ _) (((Kp.refl [] w).alloc _).rd_new H0.out (by simp)) (by simp) (iv_one _ _) (by omega) ?_; intro v' w1 hown hk hat; have HO := As.mk hown; have HK := As.mk hk; have HA := As.mk hat; clear hown hk hat)
    go_ret
    exact ⟨v', rfl, ⟨by simpa using HO.out, HA.out.ge (by simp) (by simp [Value.ownBlock])⟩, ((Kp.refl [] w).alloc _).trans HK.out (by simp [Value.ownBlock])⟩

end Go.Proofs.Ytiabdeciadfiiaa.clone

/- octet.Writer: what it holds (Wr), and its methods. -/
namespace Go.Proofs.Ytiabdeciadfiiaa.writer
open Go.RowKit H O

theorem info_u8 : (Try.prog.info? 5).map (fun i => (i.zero, i.size, i.bytes)) = some (some (.int .u8 0), 1, 1) := by kernel_rfl

/-- The Writer in block b has laid xs, in block g (if any). -/
def Wr (w : World) (b : Nat) (g : Option Nat) (xs : List Int) : Prop :=
  ∃ v, w.heap[b]? = some (.cells #[v] 79 (0, 0)) ∧ v.ownBlock = g ∧ w.ownsRow 0 5 1 v xs.length (iv .u8 xs) ∧ g ≠ some b
/-- Behind a call that lays ys. -/
def WrPost (b : Nat) (g : Option Nat) (xs ys : List Int) (w : World) (e : Ending) (w' : World) : Prop :=
  e = .returned (.tuple #[]) ∧ ∃ g', Wr w' b g' (xs ++ ys) ∧ At w.heap.size g g' ∧ Kp (b :: g.toList) w w'

theorem Wr.kp {w w1 : World} {b : Nat} {g : Option Nat} {xs : List Int} {S : List Nat} (h : Wr w b g xs) (k : Kp S w w1) (hb : b ∉ S) (hg : ∀ x, g = some x → x ∉ S) : Wr w1 b g xs := by
  obtain ⟨v, h1, rfl, h3, h4⟩ := h
  exact ⟨v, k.blk h1 hb, rfl, k.own h3 hg, h4⟩
theorem Wr.lt {w : World} {b : Nat} {g : Option Nat} {xs : List Int} (h : Wr w b g xs) : b < w.heap.size ∧ ∀ x, g = some x → x < w.heap.size := by
  obtain ⟨v, h1, rfl, h3, h4⟩ := h
  exact ⟨lt_of_block h1, own_lt h3⟩
theorem Wr.new (w : World) : Wr (w.alloc (.cells #[.slice none 0 0] 79)) w.heap.size none [] :=
  ⟨_, heap_alloc_new w _, rfl, World.ownsRow_nil _ 0 _ 1, by simp⟩

/-- Behind an append onto a Writer's row: what the store wants, and what it leaves. -/
theorem Wr.app {w wa w1 : World} {b n m : Nat} {ys news : List Int} {v v1 : Value} (hy : ys.length = n) (hb : w.heap[b]? = some (.cells #[v] 79 (0, 0))) (hne : v.ownBlock ≠ some b) (ka : Kp [] w wa)
    (hm : news.length = m) (o1 : w1.ownsRow 0 5 1 v1 (n + m) (iv .u8 ys ++ iv .u8 news)) (k1 : Kp v.ownBlock.toList wa w1) (a1 : At wa.heap.size v.ownBlock v1.ownBlock) :
    w1.cell? ⟨b, 0, none⟩ = some v ∧ w1.frozen? ⟨b, 0, none⟩ = false ∧ Wr (w1.setCell ⟨b, 0, none⟩ v1) b v1.ownBlock (ys ++ news) ∧ At w.heap.size v.ownBlock v1.ownBlock ∧
      Kp (b :: v.ownBlock.toList) w (w1.setCell ⟨b, 0, none⟩ v1) := by
  subst hm hy
  have hlt := lt_of_block hb
  have hs := ka.size
  have hb1 : w1.heap[b]? = some (.cells #[v] 79 (0, 0)) := k1.blk (ka.blk hb (by simp)) (by simpa using hne)
  have hne1 : v1.ownBlock ≠ some b := a1.off (by omega) hne
  refine ⟨cell_of_one hb1, free_of_one hb1, ⟨v1, one_setCell hb1, rfl, ?_, hne1⟩, ?_, ?_⟩
  · have := (((Kp.refl [b] w1).setCell (a := ⟨b, 0, none⟩) (.inl (by simp)) v1).own o1 (by intro k hk; rw [hk] at hne1; simpa using hne1))
    simpa [iv] using this
  · rcases a1 with h | ⟨k, h, hk⟩
    · exact .inl h
    · exact .inr ⟨k, h, by omega⟩
  · refine (((ka.mono (T := b :: v.ownBlock.toList) (by simp)).row k1 ?_).setCell ?_ v1)
    · intro x hx
      exact .inl (by simp [hx])
    · exact .inl (by simp)

theorem WrPost.of {b : Nat} {g g' : Option Nat} {xs ys : List Int} {w w' : World} (h1 : Wr w' b g' (xs ++ ys)) (h2 : At w.heap.size g g') (h3 : Kp (b :: g.toList) w w') : WrPost b g xs ys w (.returned (.tuple #[])) w' := ⟨rfl, g', h1, h2, h3⟩

theorem WrPost.then {b : Nat} {g g1 g2 : Option Nat} {xs ys zs : List Int} {w w1 wa w2 : World} (A1 : At w.heap.size g g1) (K1 : Kp (b :: g.toList) w w1) (ka : Kp [] w1 wa) (W2 : Wr w2 b g2 (xs ++ ys ++ zs)) (A2 : At wa.heap.size g1 g2)
    (K2 : Kp (b :: g1.toList) wa w2) : WrPost b g xs (ys ++ zs) w (.returned (.tuple #[])) w2 := by
  have hs := ka.size
  have hs1 := K1.size
  refine ⟨rfl, g2, by rw [← List.append_assoc]; exact W2, A1.trans A2 (by omega), (K1.trans ka (by simp)).trans K2 ?_⟩
  intro x hx
  rcases List.mem_cons.1 hx with rfl | hx
  · exact .inl (by simp)
  · have hx' : g1 = some x := by simpa using hx
    rcases A1 with rfl | ⟨j, rfl, hj⟩
    · exact .inl (by simp [hx'])
    · exact .inr (by have := Option.some.inj hx'; omega)

/-- Raw -/
theorem raw_any (b : Nat) (g : Option Nat) (xs : List Int) (A : Option Addr) (n c : Nat) (ys : List Int) (w : World) (hW : Wr w b g xs) (hn : ys.length = n) (hr : Rd w A (iv .u8 ys)) (hnil : A = none → c = 0)
    (hb : xs.length + n ≤ 140737488351232) :
    Calls Try.prog 79 #[.pointer (some ⟨b, 0, none⟩), .slice A n c] w (WrPost b g xs ys w) := by
  obtain ⟨v, hb1, rfl, ho, hne⟩ := hW
  have c1 := cell_of_one hb1
  have HB := As.mk hb1
  have HO := As.mk ho
  have HR := As.mk hr
  have HN := As.mk hnil
  have HE := As.mk hne
  have HL := As.mk hn
  clear hb1 ho hr hnil hne hn
  go_enter Try.func79, Try.ntmps79
  go_wp2_with (at_builtin; refine clone.app8 rfl (.tmp 10) (.tmp 11) rfl v xs.length (iv .u8 xs) rfl HO.out A n c (iv .u8 ys) rfl (by rw [iv_len, HL.out]) HR.out HN.out (iv_one _ _) (by omega) ?_; intro v1 w1 o1 k1 a1; obtain ⟨A1, c1', rfl, _⟩ := own_rd o1; obtain ⟨c2, f2, W2, A2, K2⟩ := Wr.app rfl HB.out HE.out (Kp.refl [] w) HL.out o1 k1 a1; have R := As.mk (WrPost.of W2 A2 K2); clear o1 k1 a1 W2 A2 K2)
  go_end0
  exact R.out

/-- Out -/
theorem out_any (b : Nat) (g : Option Nat) (xs : List Int) (w : World) (hW : Wr w b g xs) (hb : xs.length ≤ 140737488351232) :
    Calls Try.prog 41 #[.pointer (some ⟨b, 0, none⟩)] w (RetOwn 5 .u8 w xs) := by
  obtain ⟨v, hb1, rfl, ho, hne⟩ := hW
  obtain ⟨A, c, rfl, hle, hmax, hrd, hnil⟩ := own_rd ho
  have c1 := cell_of_one hb1
  have HC := As.mk (clone.clone_any A xs.length c xs w rfl hrd hnil (by omega))
  clear hb1 ho hne hrd hnil
  go_enter Try.func41, Try.ntmps41
  go_wp2_with (go_at_call 67; refine HC.out.mono ?_; rintro e w' ⟨v, rfl, ho, hk⟩; have HO := As.mk ho; have HK := As.mk hk; clear ho hk)
  go_ret
  exact ⟨v, rfl, HO.out, HK.out⟩

theorem min_two (x y : Int) (t ty : TypeId) (w : World) : (Builtin.min_ #[t, t] ty #[.int .i64 x, .int .i64 y]).run Try.prog w = .ok (.int .i64 (if y < x then y else x)) w := by
  simp [Builtin.min_, Builtin.min2]
theorem max_two (x y : Int) (t ty : TypeId) (w : World) : (Builtin.max_ #[t, t] ty #[.int .i64 x, .int .i64 y]).run Try.prog w = .ok (.int .i64 (if y > x then y else x)) w := by
  simp [Builtin.max_, Builtin.max2]

set_option maxHeartbeats 4000000 in
set_option maxRecDepth 100000 in
/-- Nums -/
theorem nums_any (b : Nat) (g : Option Nat) (xs : List Int) (A : Option Addr) (n c : Nat) (vs : List Int) (w : World) (hW : Wr w b g xs) (hn : vs.length = n) (hr : RdS (b :: g.toList) w A (iv .i64 vs))
    (hb : xs.length + 9 * n ≤ 140737488351232) :
    Calls Try.prog 39 #[.pointer (some ⟨b, 0, none⟩), .slice A n c] w (WrPost b g xs (nums vs) w) := by
  subst hn
  have HW := As.mk hW
  have HR := As.mk hr
  clear hW hr
  go_enter Try.func39, Try.ntmps39
  go_wp2
  go_loopw [11] (fun i wr => ∃ k : Nat, i = .int .i64 k ∧ k ≤ vs.length ∧ As (WrPost b g xs (nums (vs.take k)) w (.returned (.tuple #[])) wr)) (fun i _ => vs.length - (intOf i).toNat)
  case atStart => exact ⟨0, rfl, by omega, ⟨WrPost.of (by simpa [nums] using HW.out) (At.refl _ _) (Kp.refl _ _)⟩⟩
  case round =>
    obtain ⟨k, rfl, hk, HP⟩ := hrel
    by_cases hlt : k < vs.length
    · obtain ⟨_, g1, W1, A1, K1⟩ := HP.out
      obtain ⟨a, rfl, d1⟩ := (HR.out.kp K1 (fun x hx => .inl hx)).int k hlt
      obtain ⟨x, hx⟩ : ∃ x, x = vs[k] := ⟨_, rfl⟩
      rw [← hx] at d1
      have HX := As.mk hx
      clear hx
      obtain ⟨u, hu⟩ : ∃ u, u = cl x := ⟨_, rfl⟩
      have hmin : ∀ w, (Builtin.min_ #[3, 3] 3 #[.int .i64 x, .int .i64 4611686018427387904]).run Try.prog w = .ok (.int .i64 (min x 4611686018427387904)) w := fun w => by rw [min_two]; congr 2; omega
      have hmax : ∀ w, (Builtin.max_ #[3, 3] 3 #[.int .i64 0, .int .i64 (min x 4611686018427387904)]).run Try.prog w = .ok (.int .i64 (u : Int)) w := fun w => by rw [max_two]; rw [cl_if, hu]
      have hu2 : u ≤ 4611686018427387904 := by subst hu; exact cl_le x
      have HU := As.mk hu
      clear hu
      have HP : As (WrPost b g xs (nums (vs.take k)) w (.returned (.tuple #[])) wr) := HP
      clear W1 A1 K1
      obtain ⟨wo, rfl⟩ : ∃ wo : World, wo = wr := ⟨_, rfl⟩
      go_wp2_with fail
      go_loopw [6] (fun s w2 => ∃ u2 : Nat, s = .int .u64 (u2 : Int) ∧ As (u2 ≤ 4611686018427387904) ∧ As (∃ pre, pre ++ enc u2 = num x ∧ WrPost b g xs (nums (vs.take k) ++ pre) w (.returned (.tuple #[])) w2)) (fun s _ => (intOf s).toNat)
      case atStart => exact ⟨u, rfl, ⟨hu2⟩, ⟨[], by rw [HU.out]; rfl, by rw [List.append_nil]; exact HP.out⟩⟩
      case round =>
        clear d1 hmin hmax hu2
        obtain ⟨u2, rfl, HU2, ⟨pre, hpre, _, g2, W2, A2, K2⟩⟩ := hrel
        obtain ⟨v, hb1, rfl, ho, hne⟩ := W2
        obtain ⟨m, hm⟩ : ∃ m, (xs ++ (nums (vs.take k) ++ pre)).length = m := ⟨_, rfl⟩
        rw [hm] at ho
        have HM := As.mk hm
        clear hm
        obtain ⟨Av, cv, rfl, _⟩ := own_rd ho
        have c1 := cell_of_one hb1
        have HB := As.mk hb1
        have HO := As.mk ho
        have HE := As.mk hne
        have HA2 := As.mk A2
        have HK2 := As.mk K2
        have HP2 := As.mk hpre
        clear hb1 ho hne A2 K2 hpre
        have HBD : As (m + 1 ≤ 140737488355328) := by
          constructor
          have h1 := nums_len (vs.take k)
          have h2 := num_len x
          have h3 := enc_pos u2
          have h4 := HM.out
          rw [← HP2.out] at h2
          simp only [List.length_append, List.length_take] at h1 h2 h4
          omega
        by_cases hge : 128 ≤ u2
        · have hor := or128 u2
          go_wp2_with (at_builtin; refine clone.app8_one rfl (.tmp 27) (.tmp 31) rfl (.slice Av m cv) _ _ rfl HO.out ((u2 : Int) % 128 + 128) rfl HBD.out ?_; intro v1 w1 o1 k1 a1; obtain ⟨A1, c1', rfl, _⟩ := own_rd o1; obtain ⟨c2, f2, W3, A3, K3⟩ := Wr.app (news := [(u2 : Int) % 128 + 128]) HM.out HB.out HE.out ((Kp.refl [] wr).alloc _) rfl o1 k1 (by simpa using a1); have R := As.mk (WrPost.then HA2.out HK2.out (Kp.refl _ _) W3 A3 K3); clear o1 k1 a1 W3 A3 K3)
          go_roundw
          case rel => exact ⟨u2 / 128, by go_num, ⟨by have := HU2.out; omega⟩, ⟨pre ++ [(u2 : Int) % 128 + 128], by rw [← HP2.out, enc_hi (u := u2) (by omega), List.append_assoc, List.singleton_append], by rw [← List.append_assoc]; exact R.out⟩⟩
          case measure => simp [intOf]; omega
        · go_wp2_with (at_builtin; refine clone.app8_one rfl (.tmp 39) (.tmp 42) rfl (.slice Av m cv) _ _ rfl HO.out (u2 : Int) rfl HBD.out ?_; intro v1 w1 o1 k1 a1; obtain ⟨A1, c1', rfl, _⟩ := own_rd o1; obtain ⟨c2, f2, W3, A3, K3⟩ := Wr.app (news := [(u2 : Int)]) HM.out HB.out HE.out ((Kp.refl [] wr).alloc _) rfl o1 k1 (by simpa using a1); have R := As.mk (WrPost.then HA2.out HK2.out (Kp.refl _ _) W3 A3 K3); clear o1 k1 a1 W3 A3 K3)
          go_roundw
          case rel => exact ⟨k + 1, by go_num, by omega, ⟨by rw [nums_step vs k hlt, ← HX.out, ← HP2.out, enc_lo (u := u2) (by omega), ← List.append_assoc]; exact R.out⟩⟩
          case measure => simp [intOf]; omega
    · go_wp2
      go_end0
      have : vs.take k = vs := List.take_of_length_le (by omega)
      rw [this] at HP
      exact HP.out


set_option maxHeartbeats 4000000 in
/-- Bytes -/
theorem bytes_any (b : Nat) (g : Option Nat) (xs : List Int) (A : Option Addr) (n c : Nat) (l : List (List Int)) (w : World) (hW : Wr w b g xs) (hn : l.length = n) (hr : Rs (b :: g.toList) w A l)
    (hb : xs.length + 9 * n + l.flatten.length ≤ 140737488351232) :
    Calls Try.prog 80 #[.pointer (some ⟨b, 0, none⟩), .slice A n c] w (WrPost b g xs (rows l) w) := by
  subst hn
  have HW := As.mk hW
  have HR := As.mk hr
  clear hW hr
  go_enter Try.func80, Try.ntmps80
  go_wp2
  go_loopw [8] (fun i wr => ∃ k : Nat, i = .int .i64 k ∧ k ≤ l.length ∧ As (WrPost b g xs (rows (l.take k)) w (.returned (.tuple #[])) wr)) (fun i _ => l.length - (intOf i).toNat)
  case atStart => exact ⟨0, rfl, by omega, ⟨WrPost.of (by simpa [rows] using HW.out) (At.refl _ _) (Kp.refl _ _)⟩⟩
  case round =>
    obtain ⟨k, rfl, hk, HP⟩ := hrel
    by_cases hlt : k < l.length
    · obtain ⟨_, g1, W1, A1, K1⟩ := HP.out
      obtain ⟨a, Aj, cj, rfl, ha, d0, _, hnil, hrd⟩ := HR.out k hlt
      have d1 := K1.cell d0 (by rw [add_block]; exact ha)
      clear d0 ha
      obtain ⟨x, hx⟩ : ∃ x, x = l[k] := ⟨_, rfl⟩
      rw [← hx] at d1 hrd
      have HX := As.mk hx
      have HRD := As.mk hrd
      have HNL := As.mk hnil
      clear hx hrd hnil
      have HBD : As (xs.length + (rows (l.take k)).length + 9 + x.length ≤ 140737488351232) := by
        constructor
        have h1 := rows_len_take l k hlt
        rw [← HX.out] at h1
        omega
      have HBD2 : As ((xs ++ (rows (l.take k) ++ nums [(x.length : Int)])).length + x.length ≤ 140737488351232) := by
        constructor
        have h1 := HBD.out
        have h2 := nums_len [(x.length : Int)]
        simp only [List.length_append, List.length_cons, List.length_nil] at h2 ⊢
        omega
      have HN : As (Calls Try.prog 39 #[.pointer (some ⟨b, 0, none⟩), .slice (some ⟨wr.heap.size, 0, none⟩) 1 1] (wr.alloc (.cells #[.int .i64 (x.length : Int)] 3)) (WrPost b g1 (xs ++ rows (l.take k)) (nums [(x.length : Int)]) (wr.alloc (.cells #[.int .i64 (x.length : Int)] 3)))) := by
        constructor
        have hl := W1.lt
        refine nums_any b g1 _ _ 1 1 [(x.length : Int)] _ (W1.kp ((Kp.refl [] wr).alloc _) (by simp) (by simp)) rfl (RdS.lit wr [.int .i64 (x.length : Int)] _ ?_) (by have := HBD.out; rw [List.length_append]; omega)
        intro y hy
        rcases List.mem_cons.1 hy with rfl | hy
        · exact hl.1
        · exact hl.2 y (by simpa using hy)
      have HA1 := As.mk A1
      have HK1 := As.mk K1
      clear W1 A1 K1
      go_wp2_with (first
        | (go_at_call 39; refine HN.out.mono ?_; rintro e w1 ⟨rfl, g2, W2, A2, K2⟩; obtain ⟨_, g3, W3, A3, K3⟩ := WrPost.then HA1.out HK1.out ((Kp.refl [] wr).alloc _) W2 A2 K2; have HA3 := As.mk A3; have HK3 := As.mk K3; have HRW := As.mk (raw_any b g3 _ Aj x.length cj x w1 W3 rfl (HRD.out.kp K3 (fun x hx => .inl hx)).rd HNL.out HBD2.out); clear W2 A2 K2 W3 A3 K3)
        | (go_at_call 79; refine HRW.out.mono ?_; rintro e w2 ⟨rfl, g4, W4, A4, K4⟩; have HP4 := As.mk (WrPost.then HA3.out HK3.out (Kp.refl [] _) W4 A4 K4); clear W4 A4 K4))
      go_roundw
      case rel => exact ⟨k + 1, by go_num, by omega, ⟨by rw [rows_step l k hlt, ← HX.out, row, ← nums_one, ← List.append_assoc]; exact HP4.out⟩⟩
      case measure => simp [intOf]; omega
    · go_wp2
      go_end0
      have : l.take k = l := List.take_of_length_le (by omega)
      rw [this] at HP
      exact HP.out

end Go.Proofs.Ytiabdeciadfiiaa.writer

/- A slice of rows as a list of values; an append of rows onto a row of rows of one's own. -/
namespace Go.Proofs.Ytiabdeciadfiiaa.H
open Go.RowKit

/-- These values are slices that hold these rows. -/
def Vals (w : World) (vs : List Value) (l : List (List Int)) : Prop :=
  vs.length = l.length ∧ ∀ j (h : j < l.length), ∃ Aj cj, vs[j]? = some (.slice Aj l[j].length cj) ∧ l[j].length ≤ cj ∧ (Aj = none → cj = 0) ∧ Rd w Aj (iv .u8 l[j])
theorem Vals.of {w : World} {A : Option Addr} {l : List (List Int)} (h : Rs [] w A l) : ∃ vs, Vals w vs l ∧ Rd w A vs ∧ ∀ u ∈ vs, u.oneCell' = true := by
  cases A with
  | none =>
    have : l = [] := by
      cases l with
      | nil => rfl
      | cons x r => obtain ⟨a, _, _, e, _⟩ := h 0 (by simp); cases e
    subst this
    exact ⟨[], ⟨rfl, fun j hj => absurd hj (by simp)⟩, Rd.nil _ _, by simp⟩
  | some a =>
    have hc : ∀ j, j < l.length → ∃ Aj cj, (w.cell? (a.add j)).getD (.slice none 0 0) = .slice Aj l[j]!.length cj := by
      intro j hj
      obtain ⟨a', Aj, cj, e, _, hc, _⟩ := h j hj
      cases e
      exact ⟨Aj, cj, by rw [hc]; simp [hj]⟩
    refine ⟨(List.range l.length).map fun j => (w.cell? (a.add j)).getD (.slice none 0 0), ⟨by simp, ?_⟩, ?_, ?_⟩
    · intro j hj
      obtain ⟨a', Aj, cj, e, _, hcj, h1, h2, h3⟩ := h j hj
      cases e
      exact ⟨Aj, cj, by simp [hj, hcj], h1, h2, h3.rd⟩
    · intro j v hv
      have hj : j < l.length := by have := (List.getElem?_eq_some_iff.1 hv).1; simpa using this
      obtain ⟨a', Aj, cj, e, _, hcj, _⟩ := h j hj
      cases e
      refine ⟨a, rfl, ?_⟩
      rw [← hv]
      simp [hj, hcj]
    · intro u hu
      obtain ⟨j, hj, rfl⟩ := List.mem_map.1 hu
      obtain ⟨Aj, cj, e⟩ := hc j (by simpa using hj)
      rw [e]
      rfl
theorem Vals.rs {w : World} {A : Option Addr} {vs : List Value} {l : List (List Int)} (h : Vals w vs l) (hr : Rd w A vs) : Rs [] w A l := by
  intro j hj
  obtain ⟨Aj, cj, hv, h1, h2, h3⟩ := h.2 j hj
  obtain ⟨a, rfl, hc⟩ := hr j _ hv
  exact ⟨a, Aj, cj, rfl, by simp, hc, h1, h2, RdS.new h3 (Kp.refl _ _) (by simp)⟩
theorem Vals.kp {w w1 : World} {vs : List Value} {l : List (List Int)} (h : Vals w vs l) (k : Kp [] w w1) : Vals w1 vs l := by
  refine ⟨h.1, fun j hj => ?_⟩
  obtain ⟨Aj, cj, hv, h1, h2, h3⟩ := h.2 j hj
  exact ⟨Aj, cj, hv, h1, h2, k.rd h3 (fun _ _ => by simp)⟩
theorem Vals.app {w : World} {vs us : List Value} {l r : List (List Int)} (h : Vals w vs l) (k : Vals w us r) : Vals w (vs ++ us) (l ++ r) := by
  refine ⟨by rw [List.length_append, List.length_append, h.1, k.1], fun j hj => ?_⟩
  by_cases hjl : j < l.length
  · obtain ⟨Aj, cj, hv, h1, h2, h3⟩ := h.2 j hjl
    refine ⟨Aj, cj, ?_, ?_, h2, ?_⟩
    · rw [List.getElem?_append_left (by rw [h.1]; exact hjl), hv, List.getElem_append_left hjl]
    · rw [List.getElem_append_left hjl]; exact h1
    · rw [List.getElem_append_left hjl]; exact h3
  · have hj2 : j - l.length < r.length := by rw [List.length_append] at hj; omega
    obtain ⟨Aj, cj, hv, h1, h2, h3⟩ := k.2 (j - l.length) hj2
    refine ⟨Aj, cj, ?_, ?_, h2, ?_⟩
    · rw [List.getElem?_append_right (by rw [h.1]; omega), h.1, hv, List.getElem_append_right (by omega)]
    · rw [List.getElem_append_right (by omega)]; exact h1
    · rw [List.getElem_append_right (by omega)]; exact h3
theorem Vals.nil (w : World) : Vals w [] [] := ⟨rfl, fun j hj => absurd hj (by simp)⟩

theorem info_rows : (Try.prog.info? 26).map (fun i => (i.zero, i.size, i.bytes)) = some (some (.slice none 0 0), 1, 24) := by kernel_rfl
/-- append of rows -/
theorem appR {w : World} {ops : Array Oper} {rest : List Oper} {o : Oper} {a : Act} {Q : Exit → Act → World → Prop} (hgd : o.guard = none) (s x : Operand)
    (ho : o.op = .call { callee := .builtin .append, args := #[s, x], argTypes := #[121, 121] })
    (v : Value) (n : Nat) (xs : List Value) (hs : a.eval s = v) (hown : w.ownsRow 0 26 1 v n xs)
    (A : Option Addr) (m c : Nat) (news : List Value) (hx : a.eval x = .slice A m c) (hl : news.length = m) (hrd : Rd w A news) (hnil : A = none → c = 0) (h1 : ∀ u ∈ news, u.oneCell' = true)
    (hm : n + m ≤ 1000000)
    (h : ∀ v' w', w'.ownsRow 0 26 1 v' (n + m) (xs ++ news) → Kp v.ownBlock.toList w w' → At w.heap.size v.ownBlock v'.ownBlock →
      wpList Try.prog ops Q rest (a.put o.dst v') w') : wpList Try.prog ops Q (o :: rest) a w :=
  wpList_app hgd s x 121 ho 26 (.slice none 0 0) 1 24 Try.underlying121 info_rows rfl (by decide) v n xs hs hown A m c news hx (by rw [hl, Nat.mul_one]) hrd hnil h1 (by omega) (by omega)
    (fun v' w' h1 h2 h3 _ => h v' w' h1 h2 h3)

end Go.Proofs.Ytiabdeciadfiiaa.H

/- Package op: within, isKey, what an op's bytes are. -/
namespace Go.Proofs.Ytiabdeciadfiiaa.O
open Go.RowKit H

/-- a string's bytes -/
def kb (s : ByteArray) : List Int := s.data.toList.map fun b => (b.toNat : Int)
theorem kb_len (s : ByteArray) : (kb s).length = s.size := by
  rw [kb, List.length_map, Array.length_toList]
  rfl
theorem kb_wf (s : ByteArray) : Wf (kb s) := by
  intro x hx
  obtain ⟨b, _, rfl⟩ := List.mem_map.1 hx
  have := b.toNat_lt
  omega
theorem kb_inj {s t : ByteArray} (h : kb s = kb t) : s = t := by
  unfold kb at h
  have h2 : s.data.toList = t.data.toList := (List.map_inj_right (fun a b hab => UInt8.toNat_inj.1 (by omega))).1 h
  cases s
  cases t
  congr
  exact Array.toList_inj.1 h2

/-- numbers from 0 to 2^40 -/
def within1 (x : Int) : Bool := decide (0 ≤ x) && decide (x ≤ 1099511627776)
/-- which error an op has -/
def opErr (k cl sq : Int) (kn n : Nat) : Int :=
  if (k ≠ 1 ∧ k ≠ 2) ∨ (within1 cl && within1 sq) = false ∨ ¬ (1 ≤ kn ∧ kn ≤ 64) ∨ (k = 2 ∧ 0 < n) then 1 else if 4096 < n then 5 else 0
def opBytes (k cl sq : Int) (key : ByteArray) (text : List Int) : List Int := nums [k, cl, sq] ++ rows [kb key, text]

theorem kp_bytes {S : List Nat} {w w1 : World} (h : Kp S w w1) (e : TypeId) (s : ByteArray) : Kp S w (Lib.bytesWorld w1 e s) :=
  h.trans (T := []) ⟨rfl, rfl, rfl, by rw [Lib.bytesWorld_size]; omega, fun k hk _ => Lib.bytesWorld_at_old w1 e s k hk⟩ (by simp)
theorem rd_bytes (w : World) (e : TypeId) (s : ByteArray) : Rd (Lib.bytesWorld w e s) (some ⟨w.heap.size, 0, none⟩) (iv .u8 (kb s)) := by
  intro j v hv
  refine ⟨_, rfl, ?_⟩
  rw [Addr.add_lit, Nat.zero_add]
  have hj : j < s.size := by
    have := (List.getElem?_eq_some_iff.1 hv).1
    rwa [iv_len, kb_len] at this
  rw [Lib.bytesWorld_cell w e s j hj, ← hv]
  have hj2 : j < s.data.size := hj
  have e : s.data[j]? = some s.data[j] := Array.getElem?_eq_getElem hj2
  simp only [iv, kb, List.getD, List.getElem?_map, Array.getElem?_toList, e, Option.map_some, Option.getD_some]
end Go.Proofs.Ytiabdeciadfiiaa.O
namespace Go.Proofs.Ytiabdeciadfiiaa.opk
open Go.RowKit H O

end Go.Proofs.Ytiabdeciadfiiaa.opk

/- op.Encode. -/
namespace Go.Proofs.Ytiabdeciadfiiaa.opk
open Go.RowKit H O

theorem rd_new1 {w : World} (vs : List Value) (t : TypeId) : Rd (w.alloc (.cells vs.toArray t)) (some ⟨w.heap.size, 0, none⟩) vs := by
  intro j v hv
  refine ⟨_, rfl, ?_⟩
  rw [Addr.add_lit, World.cell?_alloc_new]
  simpa using hv
/-- a list of two rows, newly laid -/
theorem rs_two' {S : List Nat} {w : World} {A3 A4 : Option Addr} {n3 c3 n4 c4 : Nat} {xs ys : List Int} (h3 : xs.length = n3) (h4 : ys.length = n4) (r3 : RdS S w A3 (iv .u8 xs)) (r4 : RdS S w A4 (iv .u8 ys)) (l3 : n3 ≤ c3) (l4 : n4 ≤ c4) (e3 : A3 = none → c3 = 0) (e4 : A4 = none → c4 = 0) (u : TypeId)
    (hS : ∀ x ∈ S, x < w.heap.size) :
    Rs S (w.alloc (.cells #[.slice A3 n3 c3, .slice A4 n4 c4] u)) (some ⟨w.heap.size, 0, none⟩) [xs, ys] := by
  subst h3 h4
  intro j hj
  have k := (Kp.refl [] w).alloc (.cells #[.slice A3 xs.length c3, .slice A4 ys.length c4] u)
  have hc := World.cell?_alloc_new w #[.slice A3 xs.length c3, .slice A4 ys.length c4] u j
  match j, hj, hc with
  | 0, hj, hc => exact ⟨_, A3, c3, rfl, fun hm => by have := hS _ hm; simp at this, by rw [add_zero']; exact hc, l3, e3, r3.kp k (by simp)⟩
  | 1, hj, hc => exact ⟨_, A4, c4, rfl, fun hm => by have := hS _ hm; simp at this, by rw [Addr.add_lit]; exact hc, l4, e4, r4.kp k (by simp)⟩

/-- behind Encode -/
def EncPost (k cl sq : Int) (key : ByteArray) (text : List Int) (w : World) (e : Ending) (w' : World) : Prop :=
  ∃ v, e = .returned (.tuple #[v, .int .i64 (opErr k cl sq key.size text.length)]) ∧ Own 5 .u8 w' w.heap.size v (if opErr k cl sq key.size text.length = 0 then opBytes k cl sq key text else []) ∧ Kp [] w w'

theorem enc_none {k cl sq : Int} {key : ByteArray} {text : List Int} {w w' : World} {z : Int} (hz : z = opErr k cl sq key.size text.length) (h0 : z ≠ 0) (hk : Kp [] w w') : EncPost k cl sq key text w (.returned (.tuple #[.slice none 0 0, .int .i64 z])) w' := by
  subst hz
  refine ⟨_, rfl, ?_, hk⟩
  rw [if_neg h0]
  exact Own.nil _ _ _ _

theorem heap_bytes (w : World) (e : TypeId) (s : ByteArray) (k : Nat) (o : Obj) (h : w.heap[k]? = some o) : (Lib.bytesWorld w e s).heap[k]? = some o := by
  rw [Lib.bytesWorld_at_old w e s k (lt_of_block h)]
  exact h
/-- A conversion's row, none of it in the blocks S. -/
theorem rds_bytes {S : List Nat} (w : World) (e : TypeId) (s : ByteArray) (hS : ∀ x ∈ S, x < w.heap.size) : RdS S (Lib.bytesWorld w e s) (some ⟨w.heap.size, 0, none⟩) (iv .u8 (kb s)) := by
  intro j v hv
  obtain ⟨a, ha, hc⟩ := rd_bytes w e s j v hv
  cases ha
  exact ⟨_, rfl, fun hm => by have := hS _ hm; simp at this, hc⟩
theorem rows2_len (a b : List Int) : (rows [a, b]).length ≤ 18 + a.length + b.length := by
  have := rows_len [a, b]
  simp only [List.length_cons, List.length_nil, List.flatten_cons, List.flatten_nil, List.length_append] at this
  omega

theorem enc_done {k cl sq : Int} {key : ByteArray} {text : List Int} {w w' : World} {v : Value} (he : opErr k cl sq key.size text.length = 0) (ho : Own 5 .u8 w' w.heap.size v (nums [k, cl, sq] ++ rows [kb key, text])) (hk : Kp [] w w') :
    EncPost k cl sq key text w (.returned (.tuple #[v, .int .i64 0])) w' := by
  refine ⟨v, by rw [he], ?_, hk⟩
  rw [he, if_pos rfl]
  exact ho
theorem nums3_len (a b c : Int) : (nums [a, b, c]).length ≤ 1000000 := by
  have := nums_len [a, b, c]
  simp only [List.length_cons, List.length_nil] at this
  omega
/-- the Writer, new, and its three numbers -/
theorem enc_nums (w : World) (k cl sq : Int) : Calls Try.prog 39 #[.pointer (some ⟨w.heap.size, 0, none⟩), .slice (some ⟨w.heap.size + 1, 0, none⟩) 3 3]
    ((w.alloc (.cells #[.slice none 0 0] 79)).alloc (.cells #[.int .i64 k, .int .i64 cl, .int .i64 sq] 3))
    (fun e w' => e = .returned (.tuple #[]) ∧ ∃ g, writer.Wr w' w.heap.size g (nums [k, cl, sq]) ∧ (∀ x, g = some x → w.heap.size < x) ∧ Kp [] w w' ∧ w.heap.size < w'.heap.size) := by
  have h := writer.nums_any w.heap.size none [] (some ⟨w.heap.size + 1, 0, none⟩) 3 3 [k, cl, sq] ((w.alloc (.cells #[.slice none 0 0] 79)).alloc (.cells #[.int .i64 k, .int .i64 cl, .int .i64 sq] 3))
    ((writer.Wr.new w).kp ((Kp.refl [] _).alloc _) (by simp) (by simp)) rfl (by
      have := RdS.lit (S := [w.heap.size]) (w.alloc (.cells #[.slice none 0 0] 79)) [.int .i64 k, .int .i64 cl, .int .i64 sq] 3 (by simp)
      simpa [iv] using this) (by decide)
  refine h.mono ?_
  rintro e w' ⟨rfl, g, W1, A1, K1⟩
  refine ⟨rfl, g, by simpa using W1, ?_, (((Kp.refl [] w).alloc _).alloc _).trans K1 (by simp), ?_⟩
  · intro x hx
    rcases A1 with h | ⟨j, h, hj⟩
    · rw [h] at hx; cases hx
    · rw [h] at hx; have := Option.some.inj hx; simp at hj; omega
  · have := K1.size
    simp at this
    omega
/-- the key and the text, on the Writer; and out -/
theorem enc_rows {w w3 : World} {b : Nat} {g : Option Nat} {ys : List Int} (key : ByteArray) (m : Nat) (hkm : key.size = m) (A : Option Addr) (n c : Nat) (text : List Int) (hn : text.length = n) (hr : Rd w A (iv .u8 text)) (hc : n ≤ c) (hnil : A = none → c = 0)
    (W3 : writer.Wr w3 b g ys) (hb : w.heap.size ≤ b) (hg : ∀ x, g = some x → w.heap.size ≤ x) (K3 : Kp [] w w3) (hm : m ≤ 1000000) (hn4 : n ≤ 1000000) (hy : ys.length ≤ 1000000) :
    Calls Try.prog 80 #[.pointer (some ⟨b, 0, none⟩), .slice (some ⟨w3.heap.size + 1, 0, none⟩) 2 2]
      ((Lib.bytesWorld w3 5 key).alloc (.cells #[.slice (some ⟨w3.heap.size, 0, none⟩) m (grownCap w3 m 0 5), .slice A n c] 26))
      (fun e w' => e = .returned (.tuple #[]) ∧ (Calls Try.prog 41 #[.pointer (some ⟨b, 0, none⟩)] w' fun e w'' => ∃ v, e = .returned v ∧ Own 5 .u8 w'' w.heap.size v (ys ++ rows [kb key, text]) ∧ Kp [] w w'')) := by
  have hlt := W3.lt
  have hs := K3.size
  have kB := kp_bytes (Kp.refl [] w3) 5 key
  have hsz := Lib.bytesWorld_size w3 5 key
  obtain ⟨w4, hw4⟩ : ∃ w4, w4 = Lib.bytesWorld w3 5 key := ⟨_, rfl⟩
  have hS : ∀ x ∈ b :: g.toList, w.heap.size ≤ x ∧ x < w3.heap.size := by
    intro x hx
    rcases List.mem_cons.1 hx with rfl | hx
    · exact ⟨hb, hlt.1⟩
    · exact ⟨hg x (by simpa using hx), hlt.2 x (by simpa using hx)⟩
  have hrk := rds_bytes (S := b :: g.toList) w3 5 key (fun x hx => (hS x hx).2)
  rw [← hw4] at kB hsz hrk ⊢
  have hrs := rs_two' (S := b :: g.toList) (w := w4) (n3 := m) (c3 := grownCap w3 m 0 5) (c4 := c) (by rw [kb_len, hkm]) hn hrk (RdS.new hr (K3.trans kB (by simp)) (fun x hx => (hS x hx).1)) (grownCap_ge _ _ _ _) hc (by simp) hnil 26 (fun x hx => by have := (hS x hx).2; omega)
  rw [hsz] at hrs
  have h := writer.bytes_any b g ys (some ⟨w3.heap.size + 1, 0, none⟩) 2 2 [kb key, text] _ ((W3.kp kB (by simp) (by simp)).kp ((Kp.refl [] w4).alloc (.cells #[.slice (some ⟨w3.heap.size, 0, none⟩) m (grownCap w3 m 0 5), .slice A n c] 26)) (by simp) (by simp)) rfl hrs (by simp [kb_len, hkm, hn]; omega)
  refine h.mono ?_
  rintro e w5 ⟨rfl, g5, W5, A5, K5⟩
  refine ⟨rfl, ?_⟩
  have hl := rows2_len (kb key) text
  rw [kb_len] at hl
  have K5' : Kp [] w w5 := ((K3.trans kB (by simp)).alloc _).trans K5 (fun x hx => .inr (hS x hx).1)
  refine (writer.out_any b g5 _ w5 W5 (by rw [List.length_append]; omega)).mono ?_
  rintro e w6 ⟨v, rfl, O6, K6⟩
  exact ⟨v, rfl, O6.lower K5'.size, K5'.trans K6 (by simp)⟩

theorem opErr_ne {k cl sq : Int} {m n : Nat} : opErr k cl sq m n = 0 ↔ (k = 1 ∨ (k = 2 ∧ ¬ 0 < n)) ∧ (within1 cl && within1 sq) = true ∧ (1 ≤ m ∧ m ≤ 64) ∧ n ≤ 4096 := by
  unfold opErr
  cases hb : (within1 cl && within1 sq) <;> split <;> rename_i h
  · simp
  · simp at h
  · simp only [Bool.true_eq_false, false_or] at h
    constructor
    · intro h0; cases h0
    · rintro ⟨h1, -, h2, h3⟩; omega
  · simp only [Bool.true_eq_false, false_or] at h
    split
    · constructor
      · intro h0; cases h0
      · rintro ⟨h1, -, h2, h3⟩; omega
    · constructor
      · intro _; exact ⟨by omega, rfl, by omega, by omega⟩
      · intro _; rfl

end Go.Proofs.Ytiabdeciadfiiaa.opk

/- haystacklaw13.same answers whether two rows of bytes are one. -/
namespace Go.Proofs.Ytiabdeciadfiiaa.haystacklaw13
open Go.RowKit H

theorem ret_bool {a b : Bool} (h : a = b) : Ending.returned (.bool a) = .returned (.bool b) := by rw [h]

theorem take_eq_step {xs ys : List Int} {k : Nat} (h : xs.take k = ys.take k) (hx : k < xs.length) (hy : k < ys.length) (he : xs[k] = ys[k]) : xs.take (k + 1) = ys.take (k + 1) := by
  rw [List.take_succ_eq_append_getElem hx, List.take_succ_eq_append_getElem hy, h, he]

end Go.Proofs.Ytiabdeciadfiiaa.haystacklaw13

/- haystacklaw13's helpers: roomy, stands, spoil. -/
namespace Go.Proofs.Ytiabdeciadfiiaa.haystacklaw13
open Go.RowKit H

theorem info_u8 : (Try.prog.info? 5).map (fun i => (i.zero, i.size, i.bytes)) = some (some (.int .u8 0), 1, 1) := by kernel_rfl

theorem stands_split {zs ys : List Int} (hl : zs.length = ys.length + 1) (he : zs.take ys.length = ys) : zs = ys ++ [zs[ys.length]] := by
  have := (List.take_succ_eq_append_getElem (l := zs) (i := ys.length) (by omega)).symm
  rw [he, List.take_of_length_le (by omega)] at this
  exact this.symm

end Go.Proofs.Ytiabdeciadfiiaa.haystacklaw13

/- haystacklaw13: known, ops. -/
namespace Go.Proofs.Ytiabdeciadfiiaa.haystacklaw13
open Go.RowKit H O opk

theorem known_bytes : opBytes 1 1 2 ⟨#[107]⟩ [116] = [1, 1, 2, 1, 107, 1, 116] := by
  have h1 : num 1 = [1] := enc_lo (by decide)
  have h2 : num 2 = [2] := enc_lo (by decide)
  have hk : kb ⟨#[107]⟩ = [107] := rfl
  simp [opBytes, nums, rows, row, h1, h2, hk]
theorem known_err : opErr 1 1 2 (ByteArray.size ⟨#[107]⟩) (List.length [(116 : Int)]) = 0 := by decide

theorem str_eq {a b : ByteArray} (h : a.toList = b.toList) : a = b := by
  rw [ByteArray.toList_eq, ByteArray.toList_eq] at h
  exact WideShapes.bytes_inj h
end Go.Proofs.Ytiabdeciadfiiaa.haystacklaw13

/- An op's bytes tell the op. -/
namespace Go.Proofs.Ytiabdeciadfiiaa.haystacklaw13
open Go.RowKit H O opk

theorem num_inj {a b : Int} {r s : List Int} (ha : 0 ≤ a) (ha2 : a ≤ 4611686018427387904) (hb : 0 ≤ b) (hb2 : b ≤ 4611686018427387904) (h : num a ++ r = num b ++ s) : a = b ∧ r = s := by
  have h1 := stNum_num a r
  rw [h, stNum_num b s] at h1
  have h2 := cl_of ha ha2
  have h3 := cl_of hb hb2
  obtain ⟨h4, h5⟩ := Prod.mk.injEq .. ▸ h1
  exact ⟨by omega, (Option.some.inj h5).symm⟩
theorem row_inj {a b r s : List Int} (ha : a.length ≤ 4611686018427387904) (hb : b.length ≤ 4611686018427387904) (h : row a ++ r = row b ++ s) : a = b ∧ r = s := by
  have h1 := stBytes_row a r ha
  rw [h, stBytes_row b s hb] at h1
  obtain ⟨h4, h5⟩ := Prod.mk.injEq .. ▸ h1
  exact ⟨h4.symm, (Option.some.inj h5).symm⟩
theorem within1_le {x : Int} (h : within1 x = true) : 0 ≤ x ∧ x ≤ 4611686018427387904 := by
  unfold within1 at h
  simp only [Bool.and_eq_true, decide_eq_true_eq] at h
  omega
theorem row_len (x : List Int) : (row x).length ≤ 9 + x.length := by
  have := num_len (x.length : Int)
  simp only [row, List.length_append]
  omega
theorem opBytes_eq (k c s : Int) (key : ByteArray) (x : List Int) : opBytes k c s key x = num k ++ (num c ++ (num s ++ (row (kb key) ++ (row x ++ [])))) := by
  simp [opBytes, nums_cons, nums_nil, rows]
theorem ob_inj' {k1 c1 s1 k2 c2 s2 : Int} {key1 key2 : ByteArray} {x y : List Int} (h1 : 0 ≤ k1 ∧ k1 ≤ 4611686018427387904) (h2 : 0 ≤ c1 ∧ c1 ≤ 4611686018427387904) (h3 : 0 ≤ s1 ∧ s1 ≤ 4611686018427387904)
    (g1 : 0 ≤ k2 ∧ k2 ≤ 4611686018427387904) (g2 : 0 ≤ c2 ∧ c2 ≤ 4611686018427387904) (g3 : 0 ≤ s2 ∧ s2 ≤ 4611686018427387904) (l1 : (kb key1).length ≤ 4611686018427387904) (l2 : (kb key2).length ≤ 4611686018427387904)
    (m1 : x.length ≤ 4611686018427387904) (m2 : y.length ≤ 4611686018427387904) (h : opBytes k1 c1 s1 key1 x = opBytes k2 c2 s2 key2 y) : k1 = k2 ∧ c1 = c2 ∧ s1 = s2 ∧ key1 = key2 ∧ x = y := by
  rw [opBytes_eq, opBytes_eq] at h
  have f1 := num_inj h1.1 h1.2 g1.1 g1.2 h
  have f2 := num_inj h2.1 h2.2 g2.1 g2.2 f1.2
  have f3 := num_inj h3.1 h3.2 g3.1 g3.2 f2.2
  have f4 := row_inj l1 l2 f3.2
  have f5 := row_inj m1 m2 f4.2
  exact ⟨f1.1, f2.1, f3.1, kb_inj f4.1, f5.1⟩
theorem ob_lim {k c s : Int} {m n : Nat} (h : opErr k c s m n = 0) : (0 ≤ k ∧ k ≤ 4611686018427387904) ∧ (0 ≤ c ∧ c ≤ 4611686018427387904) ∧ (0 ≤ s ∧ s ≤ 4611686018427387904) ∧ m ≤ 64 ∧ n ≤ 4096 := by
  obtain ⟨a1, a2, a3, a4⟩ := opErr_ne.1 h
  rw [Bool.and_eq_true] at a2
  have h9 : 0 ≤ k ∧ k ≤ 2 := by omega
  exact ⟨⟨h9.1, Int.le_trans h9.2 (by decide)⟩, within1_le a2.1, within1_le a2.2, a3.2, a4⟩
theorem ob_inj {k1 c1 s1 k2 c2 s2 : Int} {key1 key2 : ByteArray} {x y : List Int} (h1 : opErr k1 c1 s1 key1.size x.length = 0) (h2 : opErr k2 c2 s2 key2.size y.length = 0) :
    opBytes k1 c1 s1 key1 x = opBytes k2 c2 s2 key2 y ↔ (k1 = k2 ∧ c1 = c2 ∧ s1 = s2 ∧ key1 = key2 ∧ x = y) := by
  obtain ⟨a1, a2, a3, a4, a5⟩ := ob_lim h1
  obtain ⟨b1, b2, b3, b4, b5⟩ := ob_lim h2
  constructor
  · exact ob_inj' a1 a2 a3 b1 b2 b3 (by rw [kb_len]; omega) (by rw [kb_len]; omega) (by omega) (by omega)
  · rintro ⟨rfl, rfl, rfl, rfl, rfl⟩
    rfl

end Go.Proofs.Ytiabdeciadfiiaa.haystacklaw13

/- What a Reader (type octet.Reader) holds. -/
namespace Go.Proofs.Ytiabdeciadfiiaa.reader
open Go.RowKit H O

/-- The Reader in block b: what is left of its bytes (in block g), or nothing: it erred. -/
def Rdr (w : World) (b : Nat) (g : Option Nat) (s : Option (List Int)) : Prop :=
  ∃ A c, w.heap[b]? = some (.cells #[.slice A (left s).length c, .bool s.isNone] 113 (0, 0)) ∧ A.map Addr.block = g ∧ Rd w A (iv .u8 (left s)) ∧ (left s).length ≤ c ∧ c ≤ 9223372036854775807 ∧
    (A = none → c = 0) ∧ g ≠ some b ∧ Wf (left s)
/-- Behind a call of a Reader's. -/
def RdrPost (b : Nat) (g : Option Nat) (val : Value) (s : Option (List Int)) (w : World) (e : Ending) (w' : World) : Prop :=
  e = .returned val ∧ ∃ g', Rdr w' b g' s ∧ (g' = g ∨ g' = none) ∧ Kp [b] w w'
/-- A new Reader. -/
def NewRdr (xs : List Int) (w : World) (e : Ending) (w' : World) : Prop :=
  ∃ b g, e = .returned (.pointer (some ⟨b, 0, none⟩)) ∧ Rdr w' b g (some xs) ∧ w.heap.size ≤ b ∧ (∀ x, g = some x → w.heap.size ≤ x ∧ x < w'.heap.size) ∧ Kp [] w w'

theorem Rdr.kp {w w1 : World} {b : Nat} {g : Option Nat} {s : Option (List Int)} {S : List Nat} (h : Rdr w b g s) (k : Kp S w w1) (hb : b ∉ S) (hg : ∀ x, g = some x → x ∉ S) : Rdr w1 b g s := by
  obtain ⟨A, c, h1, rfl, h3, h4, h5, h6, h7, h8⟩ := h
  exact ⟨A, c, k.blk h1 hb, rfl, k.rd h3 (fun a ha => hg _ (by simp [ha])), h4, h5, h6, h7, h8⟩
theorem Rdr.lt {w : World} {b : Nat} {g : Option Nat} {s : Option (List Int)} (h : Rdr w b g s) : b < w.heap.size := by
  obtain ⟨A, c, h1, _⟩ := h
  exact lt_of_block h1

theorem stNum_none {s : Option (List Int)} (h : dec (left s) = none) : stNum s = (0, none) := by
  cases s with
  | none => rfl
  | some l => simp only [left, Option.getD_some] at h; simp [stNum, h]
theorem stNum_some {s : Option (List Int)} {v : Nat} {r : List Int} (h : dec (left s) = some (v, r)) : stNum s = (v, some r) := by
  cases s with
  | none => simp [left, dec, decF] at h
  | some l => simp only [left, Option.getD_some] at h; simp [stNum, h]
theorem num_fail {b : Nat} {g : Option Nat} {s : Option (List Int)} {xs : List Int} {w w1 : World} (hx : xs = left s) (hd : decF 0 0 xs = none) (h : RdrPost b g (.tuple #[]) none w (.returned (.tuple #[])) w1) :
    RdrPost b g (.int .i64 ((stNum s).1 : Int)) (stNum s).2 w (.returned (.int .i64 0)) w1 := by
  subst hx
  rw [stNum_none hd]
  exact ⟨rfl, h.2⟩

theorem num_ok {b k c c' u1 : Nat} {a a' : Addr} {s : Option (List Int)} {xs : List Int} {w : World} (hb : w.heap[b]? = some (.cells #[.slice (some a) xs.length c, .bool s.isNone] 113 (0, 0)))
    (hR : Rdr w b (some a.block) s) (hx : xs = left s) (hd : decF 0 0 xs = some (u1, xs.drop (k + 1))) (hr : Rd w (some a') (iv .u8 (xs.drop (k + 1)))) (ha : a'.block = a.block) (hl : xs.length - (k + 1) ≤ c') (hc : c' ≤ 9223372036854775807) :
    RdrPost b (some a.block) (.int .i64 ((stNum s).1 : Int)) (stNum s).2 w (.returned (.int .i64 (u1 : Int))) (w.setCell ⟨b, 0, none⟩ (.slice (some a') (xs.length - (k + 1)) c')) := by
  obtain ⟨_, _, _, _, _, _, _, _, hne, hw⟩ := hR
  subst hx
  rw [stNum_some hd]
  have hs : s.isNone = false := by
    cases s with
    | none => simp [left, decF] at hd
    | some l => rfl
  rw [hs] at hb
  have hk := (Kp.refl [b] w).setCell (a := ⟨b, 0, none⟩) (.inl (by simp)) (.slice (some a') ((left s).length - (k + 1)) c')
  refine ⟨rfl, some a.block, ⟨some a', c', ?_, by simp [ha], ?_, by simpa [left] using hl, hc, by simp, hne, hw.drop _⟩, .inl rfl, hk⟩
  · have := heap_setCell_same w b 0 _ _ (.slice (some a') ((left s).length - (k + 1)) c') hb
    simpa [left] using this
  · exact hk.rd hr (fun x hx => by cases hx; rw [ha]; intro hm; exact hne (by simpa using hm))

theorem left_le {s : Option (List Int)} {m : Nat} (h : (left s).length ≤ m) : (left (stNum s).2).length ≤ m := by
  cases s with
  | none => simpa [stNum] using h
  | some l =>
    simp only [left, Option.getD_some] at h
    cases hd : dec l with
    | none => simp [stNum, hd, left]
    | some p =>
      obtain ⟨v, r⟩ := p
      obtain ⟨q, e, _⟩ := dec_suffix hd
      simp only [stNum, hd, left, Option.getD_some]
      have := congrArg List.length e
      simp only [List.length_append] at this
      omega

/-- Nothing went wrong, and nothing is left. -/
def whole (s : Option (List Int)) : Bool := s == some []
theorem left_map (s : Option (List Int)) (n : Nat) : left (s.map (·.drop n)) = (left s).drop n := by cases s <;> simp [left]
theorem Rdr.cut {b n c c' : Nat} {a a' : Addr} {s : Option (List Int)} {w : World} (hb : w.heap[b]? = some (.cells #[.slice (some a) (left s).length c, .bool s.isNone] 113 (0, 0)))
    (hne : some a.block ≠ some b) (hw : Wf (left s)) (hr : Rd w (some a') (iv .u8 ((left s).drop n))) (ha : a'.block = a.block) (hl : (left s).length - n ≤ c') (hc : c' ≤ 9223372036854775807) :
    Rdr (w.setCell ⟨b, 0, none⟩ (.slice (some a') ((left s).length - n) c')) b (some a.block) (s.map (·.drop n)) ∧ Kp [b] w (w.setCell ⟨b, 0, none⟩ (.slice (some a') ((left s).length - n) c')) := by
  have hk := (Kp.refl [b] w).setCell (a := ⟨b, 0, none⟩) (.inl (by simp)) (.slice (some a') ((left s).length - n) c')
  refine ⟨⟨some a', c', ?_, by simp [ha], ?_, by rw [left_map]; simpa using hl, hc, by simp, hne, by rw [left_map]; exact hw.drop _⟩, hk⟩
  · have := heap_setCell_same w b 0 _ _ (.slice (some a') ((left s).length - n) c') hb
    rw [left_map]
    simpa using this
  · rw [left_map]
    exact hk.rd hr (fun x hx => by cases hx; rw [ha]; intro hm; exact hne (by simpa using hm))

/-- Behind Raw: the bytes that came, in new memory; what the Reader holds. -/
def RawPost (b : Nat) (g : Option Nat) (r : List Int × Option (List Int)) (w : World) (e : Ending) (w' : World) : Prop :=
  ∃ v, e = .returned v ∧ Own 5 .u8 w' w.heap.size v r.1 ∧ ∃ g', Rdr w' b g' r.2 ∧ (g' = g ∨ g' = none) ∧ Kp [b] w w'

theorem stRaw_bad {s : Option (List Int)} {n : Int} (h : n < 0 ∨ ((left s).length : Int) < n) : stRaw n s = ([], none) := by
  cases s with
  | none => rfl
  | some l => simp only [stRaw]; rw [if_pos (by simpa [left] using h)]
theorem stRaw_good {s : Option (List Int)} {m : Nat} (h : m ≤ (left s).length) : stRaw (m : Int) s = ((left s).take m, s.map (·.drop m)) := by
  cases s with
  | none => simp [stRaw, left]
  | some l => simp only [stRaw]; rw [if_neg (by simp [left] at h ⊢; omega)]; simp [left]

theorem raw_ok {b m c c' len : Nat} {a a' : Addr} {s : Option (List Int)} {w w1 : World} {v : Value} (hR : Rdr w b (some a.block) s) (hl : (left s).length = len)
    (hb1 : w1.heap[b]? = some (.cells #[.slice (some a) len c, .bool s.isNone] 113 (0, 0))) (ho : Own 5 .u8 w1 w.heap.size v ((left s).take m)) (hk : Kp [] w w1)
    (hr : Rd w (some a') (iv .u8 ((left s).drop m))) (ha : a'.block = a.block) (hle : len - m ≤ c') (hc : c' ≤ 9223372036854775807) :
    RawPost b (some a.block) ((left s).take m, s.map (·.drop m)) w (.returned v) (w1.setCell ⟨b, 0, none⟩ (.slice (some a') (len - m) c')) := by
  have hlt := hR.lt
  obtain ⟨_, _, _, _, _, _, _, _, hne, hw⟩ := hR
  subst hl
  obtain ⟨h1, h2⟩ := Rdr.cut (n := m) (a' := a') (c' := c') hb1 hne hw (hk.rd hr (fun _ _ => by simp)) ha hle hc
  refine ⟨v, rfl, ho.kp h2 ?_, some a.block, h1, .inl rfl, (hk.mono (by simp)).trans h2 (fun x hx => .inl hx)⟩
  intro g hg
  have := ho.2 g hg
  simp
  omega

theorem raw_nil {b : Nat} {s : Option (List Int)} {w w1 : World} {v : Value} (hR : Rdr w b none s) (hl : (left s).length = 0)
    (hb1 : w1.heap[b]? = some (.cells #[.slice none 0 0, .bool s.isNone] 113 (0, 0))) (ho : Own 5 .u8 w1 w.heap.size v ((left s).take 0)) (hk : Kp [] w w1) :
    RawPost b none ((left s).take 0, s.map (·.drop 0)) w (.returned v) (w1.setCell ⟨b, 0, none⟩ (.slice none 0 0)) := by
  have hlt := hR.lt
  have e : s.map (·.drop 0) = s := by cases s <;> simp
  have e0 : left s = [] := List.eq_nil_of_length_eq_zero hl
  have h2 := (Kp.refl [b] w1).setCell (a := ⟨b, 0, none⟩) (.inl (by simp)) (.slice none 0 0)
  rw [e]
  refine ⟨v, rfl, ho.kp h2 ?_, none, ⟨none, 0, ?_, rfl, by rw [e0]; exact Rd.nil _ _, by show (left s).length ≤ 0; omega, by omega, fun _ => rfl, by simp, by rw [e0]; exact Wf.nil⟩, .inl rfl, (hk.mono (by simp)).trans h2 (fun x hx => .inl hx)⟩
  · intro g hg
    have := ho.2 g hg
    simp
    omega
  · have := heap_setCell_same w1 b 0 _ _ (.slice none 0 0) hb1
    rw [hl]
    simpa using this


/-- Bad's two stores. -/
theorem Rdr.bad {w : World} {b : Nat} {g : Option Nat} {cs : Array Value} {x y : Value} (hcs : cs = #[x, y]) (hb : w.heap[b]? = some (.cells cs 113 (0, 0))) :
    RdrPost b g (.tuple #[]) none w (.returned (.tuple #[])) ((w.setCell ⟨b, 0, none⟩ (.slice none 0 0)).setCell ⟨b, 1, none⟩ (.bool true)) ∧
    RdrPost b g (.tuple #[]) none w (.returned (.tuple #[])) ((w.setCell ⟨b, 1, none⟩ (.bool true)).setCell ⟨b, 0, none⟩ (.slice none 0 0)) := by
  subst hcs
  refine ⟨⟨rfl, none, ⟨none, 0, ?_, rfl, Rd.nil _ _, Nat.le_refl _, by omega, fun _ => rfl, by simp, Wf.nil⟩, .inr rfl, ?_⟩, ⟨rfl, none, ⟨none, 0, ?_, rfl, Rd.nil _ _, Nat.le_refl _, by omega, fun _ => rfl, by simp, Wf.nil⟩, .inr rfl, ?_⟩⟩
  · have h1 := heap_setCell_same w b 0 _ _ (.slice none 0 0) hb
    exact heap_setCell_same _ b 1 _ _ (.bool true) h1
  · exact ((Kp.refl [b] w).setCell (.inl (by simp)) _).setCell (.inl (by simp)) _
  · have h1 := heap_setCell_same w b 1 _ _ (.bool true) hb
    exact heap_setCell_same _ b 0 _ _ (.slice none 0 0) h1
  · exact ((Kp.refl [b] w).setCell (.inl (by simp)) _).setCell (.inl (by simp)) _
theorem RdrPost.none_of {b : Nat} {g g' : Option Nat} {w w1 w2 : World} {v u : Value} (h : RdrPost b g' v none w1 (.returned v) w2) (hg : g' = g ∨ g' = none) (hk : Kp [b] w w1) : RdrPost b g u none w (.returned u) w2 := by
  obtain ⟨_, g2, h1, h2, h3⟩ := h
  refine ⟨rfl, g2, h1, ?_, hk.trans h3 (fun x hx => .inl hx)⟩
  rcases h2 with rfl | rfl
  · exact hg
  · exact .inr rfl

end Go.Proofs.Ytiabdeciadfiiaa.reader

/- octet.Reader: what it holds (Rdr), and its methods. -/
namespace Go.Proofs.Ytiabdeciadfiiaa.reader
open Go.RowKit H O

set_option maxHeartbeats 1000000 in
theorem new_any (A : Option Addr) (n c : Nat) (xs : List Int) (w : World) (hn : xs.length = n) (h0 : Rd w A (iv .u8 xs)) (hnil : A = none → c = 0) (hb : n ≤ 140737488351232) (hw : Wf xs) :
    Calls Try.prog 46 #[.slice A n c] w (NewRdr xs w) := by
  subst hn
  have HC := As.mk (clone.clone_any A xs.length c xs w rfl h0 hnil (by omega))
  have HW := As.mk hw
  clear h0 hnil hw
  go_enter Try.func46, Try.ntmps46
  go_wp2_with (go_at_call 67; refine HC.out.mono ?_; rintro e w1 ⟨v, rfl, ho, hk⟩; obtain ⟨A1, c1, rfl, hl1, hm1, hr1, hn1⟩ := own_rd ho.1; have HO := As.mk ho; have HK := As.mk hk; have HR := As.mk hr1; have HN := As.mk hn1; have HL := As.mk hl1; have HM := As.mk hm1; clear ho hk hr1 hn1 hl1 hm1)
  go_ret
  refine ⟨w1.heap.size, A1.map Addr.block, rfl, ⟨A1, c1, heap_alloc_new w1 _, rfl, ((Kp.refl [] w1).alloc _).rd_new HR.out (by simp), HL.out, HM.out, HN.out, ?_, HW.out⟩, HK.out.size, ?_, HK.out.alloc _⟩
  · intro h
    have := own_lt HO.out.1 w1.heap.size (by rw [ownBlock_slice]; exact h)
    omega
  · intro x hx
    have hx' : (Value.slice A1 xs.length c1).ownBlock = some x := by rw [ownBlock_slice]; exact hx
    have := own_lt HO.out.1 x hx'
    exact ⟨HO.out.2 x hx', by rw [World.size_alloc]; omega⟩

theorem bad_any (b : Nat) (g : Option Nat) (s : Option (List Int)) (w : World) (hR : Rdr w b g s) :
    Calls Try.prog 73 #[.pointer (some ⟨b, 0, none⟩)] w (RdrPost b g (.tuple #[]) none w) := by
  obtain ⟨A, c, hb, rfl, hr, hl, hm, hn, hne, hw⟩ := hR
  have c0 := blk_cell hb 0 rfl
  have c1 := blk_cell hb 1 rfl
  have f0 := blk_free hb 0
  have f1 := blk_free hb 1
  have HB := As.mk hb
  clear hb hr hl hm hn hne hw
  go_enter Try.func73, Try.ntmps73
  go_wp2
  go_end0
  refine ⟨rfl, none, ⟨none, 0, ?_, rfl, Rd.nil _ _, Nat.le_refl _, by omega, fun _ => rfl, by simp, Wf.nil⟩, .inr rfl, ?_⟩
  · have h1 := heap_setCell_same w b 0 _ _ (.slice none 0 0) HB.out
    exact heap_setCell_same _ b 1 _ _ (.bool true) h1
  · exact ((Kp.refl [b] w).setCell (.inl (by simp)) _).setCell (.inl (by simp)) _


theorem dec_step {xs : List Int} {k u : Nat} (hk : k < xs.length) : decF k u (xs.drop k) =
    if 9 ≤ k ∨ (0 < k ∧ xs[k] = 0) then none
    else if xs[k] < 128 then (if 4611686018427387904 < u + xs[k].toNat * 128 ^ k then none else some (u + xs[k].toNat * 128 ^ k, xs.drop (k + 1)))
    else decF (k + 1) (u + (xs[k].toNat - 128) * 128 ^ k) (xs.drop (k + 1)) := by
  rw [List.drop_eq_getElem_cons hk, decF]

set_option maxHeartbeats 4000000 in
set_option maxRecDepth 100000 in
theorem num_any (b : Nat) (g : Option Nat) (s : Option (List Int)) (w : World) (hR : Rdr w b g s) (hb : (left s).length ≤ 140737488351232) :
    Calls Try.prog 47 #[.pointer (some ⟨b, 0, none⟩)] w (RdrPost b g (.int .i64 ((stNum s).1 : Int)) (stNum s).2 w) := by
  have HBAD := As.mk (bad_any b g s w hR)
  have HRR := As.mk hR
  obtain ⟨A, c, hb0, rfl, hr, hl, hm, hn, hne, hw⟩ := hR
  obtain ⟨xs, hxs⟩ : ∃ xs, xs = left s := ⟨_, rfl⟩
  rw [← hxs] at hb0 hr hl hw hb
  have c0 := blk_cell hb0 0 rfl
  have f0 := blk_free hb0 0
  have HB := As.mk hb0
  have HR := As.mk hr
  have HW := As.mk hw
  have HX := As.mk hxs
  clear hb0 hr hn hne hw hxs
  go_enter Try.func47, Try.ntmps47
  go_wp2
  go_loop [3, 13] (fun u i => ∃ k u0 : Nat, i = .int .i64 (k : Int) ∧ u = .int .u64 (u0 : Int) ∧ k ≤ 9 ∧ k ≤ xs.length ∧ As (u0 < 128 ^ k) ∧ As (decF 0 0 xs = decF k u0 (xs.drop k))) (fun _ i => xs.length - (intOf i).toNat)
  case atStart => exact ⟨0, 0, rfl, rfl, by omega, by omega, ⟨by decide⟩, ⟨rfl⟩⟩
  case round =>
    obtain ⟨k, u0, rfl, rfl, hk9, hk, HU, HD⟩ := hrel
    by_cases hlt : k < xs.length
    · obtain ⟨a, rfl, d0⟩ := HR.out.int k hlt
      have HS := As.mk (dec_step (u := u0) hlt)
      have hc := HW.out xs[k] (by simp)
      obtain ⟨y, hy⟩ : ∃ y, y = xs[k] := ⟨_, rfl⟩
      rw [← hy] at d0 hc
      have HY := As.mk hy
      clear hy
      by_cases h9 : 9 ≤ k
      · have HF : As (decF 0 0 xs = none) := ⟨by rw [HD.out, HS.out, if_pos (.inl h9)]⟩
        have g1 : decide (9 ≤ (k : Int)) = true := by simp; omega
        go_wp2_with (go_at_call 73; refine HBAD.out.mono ?_; rintro e w1 HP; obtain rfl := HP.1; have HPA := As.mk HP; clear HP)
        go_ret
        exact num_fail HX.out HF.out HPA.out
      · have g1 : decide (9 ≤ (k : Int)) = false := by simp; omega
        by_cases h0 : 0 < k ∧ y = 0
        · obtain ⟨h0k, rfl⟩ := h0
          have HF : As (decF 0 0 xs = none) := ⟨by rw [HD.out, HS.out, if_pos (.inr ⟨h0k, HY.out.symm⟩)]⟩
          have g2 : decide (0 < (k : Int)) = true := by simp; omega
          go_wp2_with (go_at_call 73; refine HBAD.out.mono ?_; rintro e w1 HP; obtain rfl := HP.1; have HPA := As.mk HP; clear HP)
          go_ret
          exact num_fail HX.out HF.out HPA.out
        · have HN0 : As (¬ (9 ≤ k ∨ (0 < k ∧ xs[k] = 0))) := ⟨by rw [← HY.out]; omega⟩
          have hcase : ¬ 0 < k ∨ (0 < k ∧ ¬ y = 0) := by omega
          clear h0
          obtain g2 | ⟨g2, g3⟩ := hcase
          all_goals
            obtain ⟨u1, hu1⟩ : ∃ u1 : Nat, u1 = u0 + y.toNat % 128 * 128 ^ k := ⟨_, rfl⟩
            have hbit := num_bits u0 k y hc.1 hc.2 (by omega) HU.out
            rw [← hu1] at hbit
            have HU1 := As.mk hu1
            clear hu1
            by_cases h128 : y < 128
            · have e1 : y.toNat % 128 = y.toNat := by omega
              have HE : As (u0 + xs[k].toNat * 128 ^ k = u1) := ⟨by rw [HU1.out, ← HY.out, e1]⟩
              have HL : As (xs[k] < 128) := ⟨by rw [← HY.out]; exact h128⟩
              clear e1
              by_cases hbig : 4611686018427387904 < u1
              · have HF : As (decF 0 0 xs = none) := ⟨by rw [HD.out, HS.out, if_neg HN0.out, if_pos HL.out, HE.out, if_pos hbig]⟩
                go_wp2_with (go_at_call 73; refine HBAD.out.mono ?_; rintro e w1 HP; obtain rfl := HP.1; have HPA := As.mk HP; clear HP)
                go_ret
                exact num_fail HX.out HF.out HPA.out
              · have HF : As (decF 0 0 xs = some (u1, xs.drop (k + 1))) := ⟨by rw [HD.out, HS.out, if_neg HN0.out, if_pos HL.out, HE.out, if_neg hbig]⟩
                go_wp2_with fail
                all_goals go_ret
                · exact num_ok HB.out HRR.out HX.out HF.out (a' := a) (by rw [List.drop_of_length_le (show xs.length ≤ k + 1 by omega)]; exact Rd.nil _ _) rfl (by omega) (by omega)
                · exact num_ok HB.out HRR.out HX.out HF.out (a' := a.add (k + 1)) (by rw [← iv_drop]; exact HR.out.drop _) (add_block _ _) (by omega) (by omega)
            · have HF : As (decF 0 0 xs = decF (k + 1) u1 (xs.drop (k + 1))) := by
                constructor
                have e1 : y.toNat % 128 = y.toNat - 128 := by omega
                rw [HD.out, HS.out, if_neg HN0.out, if_neg (by rw [← HY.out]; exact h128), HU1.out, ← HY.out, e1]
              have HB1 : As (u1 < 128 ^ (k + 1)) := by
                constructor
                rw [HU1.out, Nat.pow_succ]
                have h1 : y.toNat % 128 * 128 ^ k ≤ 127 * 128 ^ k := Nat.mul_le_mul_right _ (by omega)
                have h2 := HU.out
                omega
              go_wp2_with fail
              go_round
              case rel => exact ⟨k + 1, u1, by go_num, rfl, by omega, by omega, HB1, HF⟩
              case measure => simp [intOf]; omega
    · have HF : As (decF 0 0 xs = none) := ⟨by rw [HD.out, List.drop_of_length_le (by omega)]; rfl⟩
      go_wp2_with (go_at_call 73; refine HBAD.out.mono ?_; rintro e w1 HP; obtain rfl := HP.1; have HPA := As.mk HP; clear HP)
      go_ret
      exact num_fail HX.out HF.out HPA.out


/-- Left, Good, Whole -/
theorem left_any (b : Nat) (g : Option Nat) (s : Option (List Int)) (w : World) (hR : Rdr w b g s) :
    Calls Try.prog 83 #[.pointer (some ⟨b, 0, none⟩)] w fun e w' => e = .returned (.int .i64 ((left s).length : Int)) ∧ w' = w := by
  obtain ⟨A, c, hb, rfl, _⟩ := hR
  have c0 := blk_cell hb 0 rfl
  clear hb
  go_enter Try.func83, Try.ntmps83
  go_wp2
  go_ret
  exact ⟨rfl, rfl⟩
theorem good_any (b : Nat) (g : Option Nat) (s : Option (List Int)) (w : World) (hR : Rdr w b g s) :
    Calls Try.prog 74 #[.pointer (some ⟨b, 0, none⟩)] w fun e w' => e = .returned (.bool s.isSome) ∧ w' = w := by
  obtain ⟨A, c, hb, rfl, _⟩ := hR
  have c1 := blk_cell hb 1 rfl
  clear hb
  cases s
  · go_enter Try.func74, Try.ntmps74
    go_wp2
    go_ret
    exact ⟨rfl, rfl⟩
  · go_enter Try.func74, Try.ntmps74
    go_wp2
    go_ret
    exact ⟨rfl, rfl⟩
theorem whole_any (b : Nat) (g : Option Nat) (s : Option (List Int)) (w : World) (hR : Rdr w b g s) :
    Calls Try.prog 49 #[.pointer (some ⟨b, 0, none⟩)] w fun e w' => e = .returned (.bool (whole s)) ∧ w' = w := by
  have HG := As.mk (good_any b g s w hR)
  obtain ⟨A, c, hb, rfl, _⟩ := hR
  have c0 := blk_cell hb 0 rfl
  clear hb
  rcases s with _ | ⟨_ | ⟨x, l⟩⟩
  · go_enter Try.func49, Try.ntmps49
    go_wp2_with (go_at_call 74; refine HG.out.mono ?_; rintro e w1 ⟨rfl, rfl⟩)
    go_ret
    exact ⟨rfl, rfl⟩
  · go_enter Try.func49, Try.ntmps49
    go_wp2_with (go_at_call 74; refine HG.out.mono ?_; rintro e w1 ⟨rfl, rfl⟩)
    go_ret
    exact ⟨rfl, rfl⟩
  · have hl : (((left (some (x :: l))).length : Int) == 0) = false := by simp [left]; omega
    go_enter Try.func49, Try.ntmps49
    go_wp2_with (go_at_call 74; refine HG.out.mono ?_; rintro e w1 ⟨rfl, rfl⟩)
    go_ret
    exact ⟨rfl, rfl⟩

end Go.Proofs.Ytiabdeciadfiiaa.reader

/- octet.Reader: Raw, Bytes, Nums. -/
namespace Go.Proofs.Ytiabdeciadfiiaa.reader
open Go.RowKit H O

set_option maxHeartbeats 4000000 in
theorem raw_any (b : Nat) (g : Option Nat) (s : Option (List Int)) (n : Int) (w : World) (hR : Rdr w b g s) (hb : (left s).length ≤ 140737488351232) :
    Calls Try.prog 82 #[.pointer (some ⟨b, 0, none⟩), .int .i64 n] w (RawPost b g (stRaw n s) w) := by
  have HBAD := As.mk (bad_any b g s w hR)
  have HRR := As.mk hR
  obtain ⟨A, c, hb0, rfl, hr, hl, hm, hn, hne, hw⟩ := hR
  obtain ⟨len, hlen⟩ : ∃ len, (left s).length = len := ⟨_, rfl⟩
  rw [hlen] at hb0 hl hb
  have c0 := blk_cell hb0 0 rfl
  have HB := As.mk hb0
  have HR := As.mk hr
  have HW := As.mk hw
  have HL := As.mk hlen
  have HN := As.mk hn
  have HE := As.mk hne
  clear hb0 hr hn hne hw hlen
  by_cases h0 : n < 0
  · have HS := As.mk (stRaw_bad (s := s) (.inl h0))
    go_enter Try.func82, Try.ntmps82
    go_wp2_with (go_at_call 73; refine HBAD.out.mono ?_; rintro e w1 HP; obtain rfl := HP.1; have HPA := As.mk HP; clear HP)
    go_ret
    rw [HS.out]
    exact ⟨_, rfl, Own.nil _ _ _ _, HPA.out.2⟩
  · by_cases h1 : (len : Int) < n
    · have HS := As.mk (stRaw_bad (s := s) (n := n) (.inr (by rw [HL.out]; exact h1)))
      go_enter Try.func82, Try.ntmps82
      go_wp2_with (go_at_call 73; refine HBAD.out.mono ?_; rintro e w1 HP; obtain rfl := HP.1; have HPA := As.mk HP; clear HP)
      go_ret
      rw [HS.out]
      exact ⟨_, rfl, Own.nil _ _ _ _, HPA.out.2⟩
    · obtain ⟨m, rfl⟩ := Int.eq_ofNat_of_zero_le (by omega : 0 ≤ n)
      have hml : m ≤ len := by omega
      clear h0 h1
      have HS := As.mk (stRaw_good (s := s) (m := m) (by rw [HL.out]; exact hml))
      cases A with
      | none =>
        have hc := HN.out rfl
        subst hc
        obtain rfl : len = 0 := by omega
        obtain rfl : m = 0 := by omega
        have HC := As.mk (clone.clone_any none 0 0 ((left s).take 0) w (by simp) (by simpa [iv] using Rd.nil w none) (by simp) (by omega))
        go_enter Try.func82, Try.ntmps82
        go_wp2_with (go_at_call 67; refine HC.out.mono ?_; rintro e w1 ⟨v, rfl, ho, hk⟩; have hb1 := hk.blk HB.out (by simp); have c01 := blk_cell hb1 0 rfl; have f01 := blk_free hb1 0; have HO := As.mk ho; have HK := As.mk hk; have HB1 := As.mk hb1; clear ho hk hb1)
        go_ret
        rw [HS.out]
        exact raw_nil HRR.out HL.out HB1.out HO.out HK.out
      | some a =>
        have HC := As.mk (clone.clone_any (some a) m c ((left s).take m) w (by rw [List.length_take, HL.out]; omega) (by rw [← iv_take]; exact HR.out.take _) (by simp) (by omega))
        go_enter Try.func82, Try.ntmps82
        go_wp2_with (go_at_call 67; refine HC.out.mono ?_; rintro e w1 ⟨v, rfl, ho, hk⟩; have hb1 := hk.blk HB.out (by simp); have c01 := blk_cell hb1 0 rfl; have f01 := blk_free hb1 0; have HO := As.mk ho; have HK := As.mk hk; have HB1 := As.mk hb1; clear ho hk hb1)
        all_goals go_ret
        all_goals rw [HS.out]
        · exact raw_ok HRR.out HL.out HB1.out HO.out HK.out (a' := a) (by rw [← iv_drop, List.drop_of_length_le (by rw [iv_len, HL.out]; omega)]; exact Rd.nil _ _) rfl (by omega) (by omega)
        · exact raw_ok HRR.out HL.out HB1.out HO.out HK.out (a' := a.add m) (by rw [← iv_drop]; exact HR.out.drop _) (add_block _ _) (by omega) (by omega)


/-- Bytes -/
theorem bytes_any (b : Nat) (g : Option Nat) (s : Option (List Int)) (w : World) (hR : Rdr w b g s) (hb : (left s).length ≤ 140737488351232) :
    Calls Try.prog 85 #[.pointer (some ⟨b, 0, none⟩)] w (RawPost b g (stBytes s) w) := by
  have HN := As.mk (num_any b g s w hR hb)
  have HL := As.mk (left_le hb)
  clear hR
  go_enter Try.func85, Try.ntmps85
  go_wp2_with (first
    | (go_at_call 47; refine HN.out.mono ?_; rintro e w1 HP; obtain rfl := HP.1; obtain ⟨_, g1, R1, G1, K1⟩ := HP; have HG1 := As.mk G1; have HK1 := As.mk K1; have HRW := As.mk (raw_any b g1 (stNum s).2 ((stNum s).1 : Int) w1 R1 HL.out); clear R1 G1 K1)
    | (go_at_call 82; refine HRW.out.mono ?_; rintro e w2 ⟨v, rfl, O2, g2, R2, G2, K2⟩; have HP2 := As.mk (And.intro O2 (And.intro R2 (And.intro G2 K2))); clear O2 R2 G2 K2))
  go_ret
  obtain ⟨O2, R2, G2, K2⟩ := HP2.out
  refine ⟨v, rfl, O2.lower HK1.out.size, g2, R2, ?_, HK1.out.trans K2 (fun x hx => .inl hx)⟩
  rcases G2 with rfl | rfl
  · exact HG1.out
  · exact .inr rfl

/-! Nums: a number into each place. -/
def put1 (w : World) (p : Option Addr) (v : Int) : World :=
  match p with
  | none => w
  | some a => w.setCell a (.int .i64 v)
def putAll (w : World) : List (Option Addr × Int) → World
  | [] => w
  | x :: r => putAll (put1 w x.1 x.2) r
theorem putAll_snoc (w : World) (l : List (Option Addr × Int)) (x : Option Addr × Int) : putAll w (l ++ [x]) = put1 (putAll w l) x.1 x.2 := by
  induction l generalizing w with
  | nil => rfl
  | cons y l ih => simp only [List.cons_append, putAll]; exact ih _
theorem put1_size (w : World) (p : Option Addr) (v : Int) : (put1 w p v).heap.size = w.heap.size := by cases p <;> simp [put1]
theorem putAll_size (w : World) (l : List (Option Addr × Int)) : (putAll w l).heap.size = w.heap.size := by
  induction l generalizing w with
  | nil => rfl
  | cons y l ih => rw [putAll, ih, put1_size]
/-- A place of an int. -/
def IsInt (w : World) (a : Addr) : Prop := (∃ x, w.cell? a = some (.int .i64 x)) ∧ w.frozen? a = false
theorem put1_isInt {w : World} {a : Addr} (h : IsInt w a) (p : Option Addr) (v : Int) : IsInt (put1 w p v) a := by
  cases p with
  | none => exact h
  | some q =>
    obtain ⟨⟨x, hx⟩, hf⟩ := h
    refine ⟨?_, by simpa [put1] using hf⟩
    by_cases e : q = a
    · subst e
      exact ⟨v, World.cell?_setCell_same _ _ _ hx⟩
    · exact ⟨x, by simp only [put1]; rw [World.cell?_setCell_other _ _ _ _ e]; exact hx⟩
theorem putAll_isInt {w : World} {a : Addr} (h : IsInt w a) (l : List (Option Addr × Int)) : IsInt (putAll w l) a := by
  induction l generalizing w with
  | nil => exact h
  | cons y l ih => exact ih (put1_isInt h _ _)
theorem put1_far (w : World) (p : Option Addr) (v : Int) (k : Nat) (h : ∀ a, p = some a → a.block ≠ k) : (put1 w p v).heap[k]? = w.heap[k]? := by
  cases p with
  | none => rfl
  | some a => exact heap_setCell_other _ _ _ _ (fun e => h a rfl e.symm)
theorem putAll_far (w : World) (l : List (Option Addr × Int)) (k : Nat) (h : ∀ x ∈ l, ∀ a, x.1 = some a → a.block ≠ k) : (putAll w l).heap[k]? = w.heap[k]? := by
  induction l generalizing w with
  | nil => rfl
  | cons y l ih => rw [putAll, ih _ (fun x hx => h x (by simp [hx])), put1_far _ _ _ _ (h y (by simp))]

theorem stNums_len (k : Nat) (s : Option (List Int)) : (stNums k s).1.length = k := by
  induction k generalizing s with
  | zero => rfl
  | succ k ih => simp only [stNums, List.length_cons, ih]
theorem stNums_snoc (k : Nat) (s : Option (List Int)) : stNums (k + 1) s = ((stNums k s).1 ++ [((stNum (stNums k s).2).1 : Int)], (stNum (stNums k s).2).2) := by
  induction k generalizing s with
  | zero => rfl
  | succ k ih =>
    have h1 : stNums (k + 1 + 1) s = (((stNum s).1 : Int) :: (stNums (k + 1) (stNum s).2).1, (stNums (k + 1) (stNum s).2).2) := rfl
    have h2 : stNums (k + 1) s = (((stNum s).1 : Int) :: (stNums k (stNum s).2).1, (stNums k (stNum s).2).2) := rfl
    rw [h1, ih, h2]
    rfl
theorem stNums_left {k m : Nat} {s : Option (List Int)} (h : (left s).length ≤ m) : (left (stNums k s).2).length ≤ m := by
  induction k with
  | zero => exact h
  | succ k ih => rw [stNums_snoc]; exact left_le ih

/-- The world behind Nums: all blocks but the Reader's own are as the stores leave them. -/
def NumsPost (b : Nat) (g : Option Nat) (ps : List (Option Addr)) (s : Option (List Int)) (w : World) (e : Ending) (w' : World) : Prop :=
  e = .returned (.tuple #[]) ∧ (∃ g', Rdr w' b g' (stNums ps.length s).2 ∧ (g' = g ∨ g' = none)) ∧ w'.os = w.os ∧ w'.tape = w.tape ∧ w'.output = w.output ∧ w.heap.size ≤ w'.heap.size ∧
    ∀ k, k < w.heap.size → k ≠ b → w'.heap[k]? = (putAll w (ps.zip (stNums ps.length s).1)).heap[k]?

theorem NumsPost.step {b : Nat} {g g1 : Option Nat} {ps : List (Option Addr)} {p : Option Addr} {s : Option (List Int)} {w wr w1 : World} (h : NumsPost b g ps s w (.returned (.tuple #[])) wr)
    (hR : Rdr w1 b g1 (stNum (stNums ps.length s).2).2) (hg : g1 = g ∨ g1 = none) (hk : Kp [b] wr w1) (hp : ∀ a, p = some a → a.block ≠ b ∧ g ≠ some a.block) :
    NumsPost b g (ps ++ [p]) s w (.returned (.tuple #[])) (put1 w1 p ((stNum (stNums ps.length s).2).1 : Int)) := by
  obtain ⟨_, _, h1, h2, h3, h4, h5⟩ := h
  have hkp : Kp (p.map Addr.block).toList w1 (put1 w1 p ((stNum (stNums ps.length s).2).1 : Int)) := by
    cases p with
    | none => exact Kp.refl _ _
    | some a => exact (Kp.refl _ _).setCell (.inl (by simp)) _
  have hz : (ps ++ [p]).zip (stNums (ps ++ [p]).length s).1 = ps.zip (stNums ps.length s).1 ++ [(p, ((stNum (stNums ps.length s).2).1 : Int))] := by
    rw [List.length_append, List.length_singleton, stNums_snoc, List.zip_append (by rw [stNums_len])]
    rfl
  refine ⟨rfl, ⟨g1, ?_, hg⟩, (hkp.os.trans hk.os).trans h1, (hkp.tape.trans hk.tape).trans h2, (hkp.output.trans hk.output).trans h3, by rw [put1_size]; have := hk.size; omega, ?_⟩
  · rw [List.length_append, List.length_singleton, stNums_snoc]
    refine hR.kp hkp ?_ ?_
    · intro hm
      cases p with
      | none => simp at hm
      | some a => exact (hp a rfl).1 (by have h9 : b = a.block := by simpa using hm
                                         exact h9.symm)
    · intro x hx hm
      cases p with
      | none => simp at hm
      | some a =>
        have hxa : x = a.block := by simpa using hm
        rcases hg with rfl | rfl
        · exact (hp a rfl).2 (by rw [hx, hxa])
        · cases hx
  · intro k hk1 hk2
    rw [hz, putAll_snoc]
    by_cases e : ∃ a, p = some a ∧ a.block = k
    · obtain ⟨a, rfl, rfl⟩ := e
      have e1 : w1.heap[a.block]? = (putAll w (ps.zip (stNums ps.length s).1)).heap[a.block]? := (hk.block _ (by omega) (by simpa using hk2)).trans (h5 _ hk1 hk2)
      simp only [put1, World.setCell, Array.getElem?_modify, e1]
    · rw [put1_far _ _ _ _ (fun a ha hb => e ⟨a, ha, hb⟩), put1_far _ _ _ _ (fun a ha hb => e ⟨a, ha, hb⟩)]
      exact (hk.block _ (by omega) (by simpa using hk2)).trans (h5 _ hk1 hk2)

theorem isInt_of_block {w w' : World} {a : Addr} (h : IsInt w a) (he : w'.heap[a.block]? = w.heap[a.block]?) : IsInt w' a := by
  obtain ⟨⟨x, hx⟩, hf⟩ := h
  exact ⟨⟨x, (World.cell?_of_block he).trans hx⟩, (World.frozen?_of_block he).trans hf⟩
theorem IsInt.lt {w : World} {a : Addr} (h : IsInt w a) : a.block < w.heap.size := by
  obtain ⟨⟨x, hx⟩, _⟩ := h
  exact World.block_lt_of_cell? w _ hx
theorem mem_zip_take {ps : List (Option Addr)} {k : Nat} {vs : List Int} {x : Option Addr × Int} (h : x ∈ (ps.take k).zip vs) : x.1 ∈ ps := List.mem_of_mem_take (List.of_mem_zip (a := x.1) (b := x.2) h).1
/-- What a round of Nums finds. -/
theorem NumsPost.place {b : Nat} {g : Option Nat} {ps : List (Option Addr)} {s : Option (List Int)} {w wr : World} {k : Nat} (h : NumsPost b g (ps.take k) s w (.returned (.tuple #[])) wr)
    (hp : ∀ p ∈ ps, ∀ q, p = some q → q.block ≠ b ∧ g ≠ some q.block ∧ IsInt w q) {q : Addr} (hq : some q ∈ ps) : IsInt wr q := by
  obtain ⟨_, _, _, _, _, _, h5⟩ := h
  obtain ⟨h1, _, h3⟩ := hp _ hq q rfl
  exact isInt_of_block (putAll_isInt h3 _) (h5 _ h3.lt h1)
theorem NumsPost.at {b : Nat} {g : Option Nat} {ps : List (Option Addr)} {s : Option (List Int)} {w wr : World} {k : Nat} (h : NumsPost b g (ps.take k) s w (.returned (.tuple #[])) wr)
    {a : Addr} (ha : a.block ≠ b) (hA : ∀ p ∈ ps, ∀ q, p = some q → q.block ≠ a.block) {v : Value} (hc : w.cell? a = some v) : wr.cell? a = some v := by
  obtain ⟨_, _, _, _, _, _, h5⟩ := h
  refine (World.cell?_of_block ((h5 _ (World.block_lt_of_cell? w _ hc) ha).trans (putAll_far _ _ _ ?_))).trans hc
  intro x hx q hq
  exact hA _ (mem_zip_take hx) q hq

set_option maxHeartbeats 4000000 in
theorem nums_any (b : Nat) (g : Option Nat) (s : Option (List Int)) (A : Option Addr) (n c : Nat) (ps : List (Option Addr)) (w : World) (hR : Rdr w b g s) (hb : (left s).length ≤ 140737488351232)
    (hn : ps.length = n) (hm : n ≤ 4611686018427387904) (hr : Rd w A (ps.map Value.pointer)) (hA : ∀ a, A = some a → a.block ≠ b ∧ ∀ p ∈ ps, ∀ q, p = some q → q.block ≠ a.block)
    (hp : ∀ p ∈ ps, ∀ q, p = some q → q.block ≠ b ∧ g ≠ some q.block ∧ IsInt w q) :
    Calls Try.prog 69 #[.pointer (some ⟨b, 0, none⟩), .slice A n c] w (NumsPost b g ps s w) := by
  subst hn
  have HR := As.mk hr
  have HA := As.mk hA
  have HP := As.mk hp
  have H0 : As (NumsPost b g (ps.take 0) s w (.returned (.tuple #[])) w) := ⟨rfl, ⟨g, hR, .inl rfl⟩, rfl, rfl, rfl, Nat.le_refl _, fun _ _ _ => rfl⟩
  clear hr hA hp hR
  go_enter Try.func69, Try.ntmps69
  go_wp2
  go_loopw [9] (fun i wr => ∃ k : Nat, i = .int .i64 (k : Int) ∧ k ≤ ps.length ∧ As (NumsPost b g (ps.take k) s w (.returned (.tuple #[])) wr)) (fun i _ => ps.length - (intOf i).toNat)
  case atStart => exact ⟨0, rfl, by omega, H0⟩
  case round =>
    obtain ⟨k, rfl, hk, HN⟩ := hrel
    by_cases hlt : k < ps.length
    · obtain ⟨a, rfl, d0⟩ := HR.out k (.pointer ps[k]) (by simp [hlt])
      obtain ⟨hab, haq⟩ := HA.out a rfl
      have d1 := NumsPost.at HN.out (a := a.add k) (by rw [add_block]; exact hab) (by rw [add_block]; exact haq) d0
      clear d0 hab haq
      obtain ⟨_, ⟨g1, R1, G1⟩, _⟩ := HN.out
      have hlk : (ps.take k).length = k := by rw [List.length_take]; omega
      have HC := As.mk (num_any b g1 _ wr R1 (stNums_left hb))
      have HG1 := As.mk G1
      have HLK := As.mk hlk
      clear R1 G1 hlk
      have hmem : ps[k] ∈ ps := List.getElem_mem hlt
      obtain ⟨p, hpe⟩ : ∃ p, p = ps[k] := ⟨_, rfl⟩
      rw [← hpe] at d1 hmem
      have HM := As.mk hmem
      have HPE := As.mk hpe
      clear hmem hpe
      have HQ : As (∀ a, p = some a → a.block ≠ b ∧ g ≠ some a.block) := ⟨fun a ha => ⟨(HP.out p HM.out a ha).1, (HP.out p HM.out a ha).2.1⟩⟩
      have HT : As (ps.take (k + 1) = ps.take k ++ [p]) := ⟨by rw [HPE.out]; exact take_succ' ps k hlt⟩
      have HLT := As.mk hlt
      cases p with
      | none =>
        go_wp2_with (go_at_call 47; refine HC.out.mono ?_; rintro e w1 HP1; obtain rfl := HP1.1; obtain ⟨_, g2, R2, G2, K2⟩ := HP1; have HNX := As.mk (NumsPost.step HN.out R2 (by rcases G2 with rfl | rfl; exact HG1.out; exact .inr rfl) K2 HQ.out); clear R2 G2 K2)
        go_roundw
        case rel => exact ⟨k + 1, by go_num, by omega, ⟨by rw [HT.out]; exact HNX.out⟩⟩
        case measure => simp [intOf]; omega
      | some q =>
        have HI := As.mk (NumsPost.place HN.out HP.out HM.out)
        go_wp2_with (go_at_call 47; refine HC.out.mono ?_; rintro e w1 HP1; obtain rfl := HP1.1; obtain ⟨_, g2, R2, G2, K2⟩ := HP1; have HNX := As.mk (NumsPost.step HN.out R2 (by rcases G2 with rfl | rfl; exact HG1.out; exact .inr rfl) K2 HQ.out); obtain ⟨⟨x1, hx1⟩, hf1⟩ := isInt_of_block HI.out (K2.block _ HI.out.lt (by simpa using (HQ.out q rfl).1)); clear R2 G2 K2)
        go_roundw
        case rel => exact ⟨k + 1, by go_num, by omega, ⟨by rw [HT.out]; have h9 := HNX.out; rw [HLK.out] at h9; exact h9⟩⟩
        case measure => simp [intOf]; omega
    · go_wp2
      go_end0
      have : ps.take k = ps := List.take_of_length_le (by omega)
      rw [this] at HN
      exact HN.out

end Go.Proofs.Ytiabdeciadfiiaa.reader

/- The check sum: the plain mathematics. -/
namespace Go.Proofs.Ytiabdeciadfiiaa.O
open Go.RowKit

/-- One digit of the check sum. -/
def st (v : BitVec 32) : BitVec 32 := if v.getLsbD 0 then (v >>> 1) ^^^ 3988292384#32 else v >>> 1
def sts : Nat → BitVec 32 → BitVec 32
  | 0, v => v
  | n + 1, v => st (sts n v)
def crcB (v : BitVec 32) (c : Int) : BitVec 32 := sts 8 (v ^^^ BitVec.ofInt 32 c)
def crcF (v : BitVec 32) (xs : List Int) : BitVec 32 := xs.foldl crcB v
def crc (xs : List Int) : Int := ((~~~ (crcF 4294967295#32 xs)).toNat : Int)

theorem wrap_bv (v : BitVec 32) : IntKind.u32.wrap (v.toNat : Int) = (v.toNat : Int) := by
  rw [IntKind.wrap_u32]
  have := v.isLt
  omega
theorem of_bv (v : BitVec 32) : BitVec.ofInt 32 (v.toNat : Int) = v := by rw [BitVec.ofInt_natCast]; simp
theorem xor_bv (a b : BitVec 32) : bits .xor .u32 (a.toNat : Int) (b.toNat : Int) = ((a ^^^ b).toNat : Int) := by
  show IntKind.u32.wrap _ = _
  rw [← wrap_bv (a ^^^ b)]
  congr 2
  exact congrArg BitVec.toNat (by show BitVec.ofInt 32 _ ^^^ BitVec.ofInt 32 _ = _; rw [of_bv, of_bv])
theorem and_bv (a b : BitVec 32) : bits .and .u32 (a.toNat : Int) (b.toNat : Int) = ((a &&& b).toNat : Int) := by
  show IntKind.u32.wrap _ = _
  rw [← wrap_bv (a &&& b)]
  congr 2
  exact congrArg BitVec.toNat (by show BitVec.ofInt 32 _ &&& BitVec.ofInt 32 _ = _; rw [of_bv, of_bv])
theorem byte_bv (c : Int) (h0 : 0 ≤ c) (h1 : c < 256) : ((BitVec.ofInt 32 c).toNat : Int) = c := by
  rw [BitVec.toNat_ofInt]
  omega
theorem and_one (v : BitVec 32) : (v &&& 1#32).toNat = if v.getLsbD 0 then 1 else 0 := by
  rw [BitVec.toNat_and]
  show v.toNat &&& 1 = _
  rw [Nat.and_one_is_mod]
  simp only [BitVec.getLsbD, Nat.testBit_zero]
  by_cases h : v.toNat % 2 = 1 <;> simp [h] <;> omega
theorem half_bv (v : BitVec 32) : ((v >>> 1).toNat : Int) = (v.toNat : Int) / 2 := by
  rw [BitVec.toNat_ushiftRight, Nat.shiftRight_eq_div_pow]
  omega

theorem not_bv (u : BitVec 32) : bits .xor .u32 IntKind.u32.max (u.toNat : Int) = ((~~~ u).toNat : Int) := by
  have h := xor_bv 4294967295#32 u
  have e : 4294967295#32 ^^^ u = ~~~ u := BitVec.allOnes_xor
  rw [e] at h
  exact h

theorem st_walk (r : BitVec 32) : bits .xor .u32 ((r.toNat : Int) / 2) (bits .and .u32 3988292384 (-bits .and .u32 (r.toNat : Int) 1 % 4294967296)) = ((st r).toNat : Int) := by
  have h1 : bits .and .u32 (r.toNat : Int) 1 = (((r &&& 1#32).toNat : Nat) : Int) := and_bv r 1#32
  rw [h1, and_one, ← half_bv]
  unfold st
  by_cases h : r.getLsbD 0
  · rw [if_pos h, if_pos h]
    have e : bits .and .u32 3988292384 (-((1 : Nat) : Int) % 4294967296) = ((3988292384#32).toNat : Int) := by decide +kernel
    rw [e, xor_bv]
  · rw [if_neg h, if_neg h]
    have e : bits .and .u32 3988292384 (-((0 : Nat) : Int) % 4294967296) = ((0#32).toNat : Int) := by decide +kernel
    rw [e, xor_bv, BitVec.xor_zero]
/-- the document's step -/
theorem st_ref_one (r : BitVec 32) (h : r.getLsbD 0 = true) : bits .and .u32 (r.toNat : Int) 1 = 1 ∧ bits .xor .u32 ((r.toNat : Int) / 2) 3988292384 = ((st r).toNat : Int) := by
  have h1 : bits .and .u32 (r.toNat : Int) 1 = (((r &&& 1#32).toNat : Nat) : Int) := and_bv r 1#32
  refine ⟨by rw [h1, and_one, if_pos h]; rfl, ?_⟩
  have h2 := xor_bv (r >>> 1) 3988292384#32
  rw [half_bv] at h2
  rw [st, if_pos h]
  exact h2
theorem st_ref_zero (r : BitVec 32) (h : ¬ r.getLsbD 0 = true) : bits .and .u32 (r.toNat : Int) 1 = 0 ∧ (r.toNat : Int) / 2 = ((st r).toNat : Int) := by
  have h1 : bits .and .u32 (r.toNat : Int) 1 = (((r &&& 1#32).toNat : Nat) : Int) := and_bv r 1#32
  refine ⟨by rw [h1, and_one, if_neg h]; rfl, ?_⟩
  rw [st, if_neg h, half_bv]

end Go.Proofs.Ytiabdeciadfiiaa.O

/- The check sum tells one byte from another. -/
namespace Go.Proofs.Ytiabdeciadfiiaa.O
open Go.RowKit H

theorem shift_top (v : BitVec 32) : (v >>> 1).getLsbD 31 = false := by
  rw [BitVec.getLsbD_ushiftRight]
  exact BitVec.getLsbD_of_ge v 32 (Nat.le_refl _)
theorem st_top (v : BitVec 32) : (st v).getLsbD 31 = v.getLsbD 0 := by
  unfold st
  by_cases h : v.getLsbD 0 = true
  · rw [if_pos h, BitVec.getLsbD_xor, shift_top, h]
    decide
  · rw [if_neg h, shift_top]
    simpa using h
theorem st_inj {a b : BitVec 32} (h : st a = st b) : a = b := by
  have h0 : a.getLsbD 0 = b.getLsbD 0 := by rw [← st_top, ← st_top, h]
  have h1 : a >>> 1 = b >>> 1 := by
    unfold st at h
    rw [← h0] at h
    by_cases ha : a.getLsbD 0 = true
    · rw [if_pos ha, if_pos ha] at h
      exact (BitVec.xor_left_inj _).1 h
    · rw [if_neg ha, if_neg ha] at h
      exact h
  apply BitVec.eq_of_getLsbD_eq
  intro i hi
  cases i with
  | zero => exact h0
  | succ i =>
    have := congrArg (fun v => BitVec.getLsbD v i) h1
    simp only [BitVec.getLsbD_ushiftRight] at this
    rwa [Nat.add_comm] at this
theorem sts_inj : ∀ (n : Nat) {a b : BitVec 32}, sts n a = sts n b → a = b
  | 0, _, _, h => h
  | n + 1, _, _, h => sts_inj n (st_inj h)
theorem crcB_inj {a b : BitVec 32} {c : Int} (h : crcB a c = crcB b c) : a = b := by
  have := sts_inj 8 h
  rw [BitVec.xor_comm a, BitVec.xor_comm b] at this
  exact (BitVec.xor_right_inj _).1 this
theorem crcB_byte {v : BitVec 32} {c d : Int} (hc : 0 ≤ c ∧ c < 256) (hd : 0 ≤ d ∧ d < 256) (h : crcB v c = crcB v d) : c = d := by
  have h1 := (BitVec.xor_right_inj _).1 (sts_inj 8 h)
  rw [← byte_bv c hc.1 hc.2, ← byte_bv d hd.1 hd.2, h1]
theorem crcF_inj : ∀ (xs : List Int) {a b : BitVec 32}, crcF a xs = crcF b xs → a = b
  | [], _, _, h => h
  | _ :: xs, _, _, h => crcB_inj (crcF_inj xs h)
theorem crcF_app (v : BitVec 32) (xs ys : List Int) : crcF v (xs ++ ys) = crcF (crcF v xs) ys := by simp [crcF]
theorem crc_eq {xs ys : List Int} (h : crc xs = crc ys) : crcF 4294967295#32 xs = crcF 4294967295#32 ys := by
  unfold crc at h
  have h1 := BitVec.eq_of_toNat_eq (Int.ofNat.inj h)
  have h2 := congrArg (fun v => ~~~ v) h1
  simpa using h2
theorem crc_set {xs : List Int} {k : Nat} {z : Int} (hk : k < xs.length) (hx : 0 ≤ xs[k] ∧ xs[k] < 256) (hz : 0 ≤ z ∧ z < 256) (hne : z ≠ xs[k]) : crc (xs.set k z) ≠ crc xs := by
  intro h
  have h1 := crc_eq h
  have e1 : xs.set k z = xs.take k ++ z :: xs.drop (k + 1) := List.set_eq_take_append_cons_drop ▸ (by rw [if_pos hk])
  have e2 : xs = xs.take k ++ xs[k] :: xs.drop (k + 1) := by rw [List.getElem_cons_drop, List.take_append_drop]
  have e3 : crcF 4294967295#32 xs = crcF 4294967295#32 (xs.take k ++ xs[k] :: xs.drop (k + 1)) := congrArg _ e2
  rw [e1, e3, crcF_app, crcF_app] at h1
  exact hne (crcB_byte hz hx (crcF_inj (xs.drop (k + 1)) h1))
theorem xor_u8 (y b : Int) (hy : 0 ≤ y ∧ y < 256) (hb : 0 ≤ b ∧ b < 256) (h0 : b ≠ 0) : (0 ≤ bits .xor .u8 y b ∧ bits .xor .u8 y b < 256) ∧ bits .xor .u8 y b ≠ y := by
  have e : bits .xor .u8 y b = ((BitVec.ofInt 8 y ^^^ BitVec.ofInt 8 b).toNat : Int) := by
    show IntKind.u8.wrap (((BitVec.ofInt 8 y ^^^ BitVec.ofInt 8 b).toNat : Nat) : Int) = _
    have := (BitVec.ofInt 8 y ^^^ BitVec.ofInt 8 b).isLt
    rw [IntKind.wrap_u8]
    omega
  have hlt := (BitVec.ofInt 8 y ^^^ BitVec.ofInt 8 b).isLt
  rw [e]
  refine ⟨⟨by omega, by omega⟩, fun h => h0 ?_⟩
  have hyv : ((BitVec.ofInt 8 y).toNat : Int) = y := by rw [BitVec.toNat_ofInt]; omega
  have hbv : ((BitVec.ofInt 8 b).toNat : Int) = b := by rw [BitVec.toNat_ofInt]; omega
  have h1 : BitVec.ofInt 8 y ^^^ BitVec.ofInt 8 b = BitVec.ofInt 8 y ^^^ 0#8 := by
    rw [BitVec.xor_zero]
    apply BitVec.eq_of_toNat_eq
    omega
  have h2 := (BitVec.xor_right_inj _).1 h1
  rw [← hbv, h2]
  rfl

end Go.Proofs.Ytiabdeciadfiiaa.O

/- Records: plain words. -/
namespace Go.Proofs.Ytiabdeciadfiiaa.O
open Go.RowKit H

/-- a number in four bytes -/
def four (n : Int) : List Int := [n % 256, n / 256 % 256, n / 65536 % 256, n / 16777216 % 256]
def unf (l : List Int) : Int := l.getD 0 0 + l.getD 1 0 * 256 + l.getD 2 0 * 65536 + l.getD 3 0 * 16777216
theorem four_len (n : Int) : (four n).length = 4 := rfl
theorem four_wf (n : Int) : Wf (four n) := by
  intro x hx
  simp only [four, List.mem_cons, List.not_mem_nil, or_false] at hx
  omega
theorem unf_four {n : Int} (h0 : 0 ≤ n) (h1 : n < 4294967296) : unf (four n) = n := by
  simp only [four, unf, List.getD_cons_zero, List.getD_cons_succ]
  omega
theorem four_unf {l : List Int} (hl : l.length = 4) (hw : Wf l) : four (unf l) = l := by
  match l, hl with
  | [a, b, c, d], _ =>
    have ha := hw a (by simp)
    have hb := hw b (by simp)
    have hc := hw c (by simp)
    have hd := hw d (by simp)
    simp only [four, unf, List.getD_cons_zero, List.getD_cons_succ, List.cons.injEq, and_true]
    omega
theorem unf_le {l : List Int} (hw : Wf l) : 0 ≤ unf l ∧ unf l < 4294967296 := by
  have h : ∀ i, 0 ≤ l.getD i 0 ∧ l.getD i 0 < 256 := by
    intro i
    rw [List.getD_eq_getElem?_getD]
    by_cases hi : i < l.length
    · rw [List.getElem?_eq_getElem hi]; exact hw _ (List.getElem_mem hi)
    · rw [List.getElem?_eq_none (by omega)]; simp
  have h0 := h 0
  have h1 := h 1
  have h2 := h 2
  have h3 := h 3
  unfold unf
  omega
theorem crc_le (l : List Int) : 0 ≤ crc l ∧ crc l < 4294967296 := by
  unfold crc
  have := (~~~ (crcF 4294967295#32 l)).isLt
  omega
theorem unf_take {l : List Int} {k : Nat} (h : 4 ≤ k) : unf (l.take k) = unf l := by
  have : ∀ i, i < 4 → (l.take k).getD i 0 = l.getD i 0 := by
    intro i hi
    rw [List.getD_eq_getElem?_getD, List.getD_eq_getElem?_getD, List.getElem?_take_of_lt (by omega)]
  unfold unf
  rw [this 0 (by omega), this 1 (by omega), this 2 (by omega), this 3 (by omega)]
theorem unf_app {l r : List Int} (h : 4 ≤ l.length) : unf (l ++ r) = unf l := by
  rw [← unf_take (l := l ++ r) (k := l.length) h, List.take_left']
  rfl

/-- the head of a record -/
def head (n : Int) : List Int := four n ++ four (crc (four n))
theorem head_len (n : Int) : (head n).length = 8 := rfl
theorem head_wf (n : Int) : Wf (head n) := by
  intro x hx
  rcases List.mem_append.1 hx with h | h
  · exact four_wf _ x h
  · exact four_wf _ x h
theorem wf_app {a b : List Int} (h1 : Wf a) (h2 : Wf b) : Wf (a ++ b) := fun x hx => by
  rcases List.mem_append.1 hx with h | h
  · exact h1 x h
  · exact h2 x h
/-- a record -/
def fEnc (p : List Int) : List Int := (head p.length ++ p) ++ four (crc (head p.length ++ p))
theorem fEnc_len (p : List Int) : (fEnc p).length = p.length + 12 := by
  simp only [fEnc, List.length_append, head_len, four_len]
  omega
theorem fEnc_wf {p : List Int} (h : Wf p) : Wf (fEnc p) := wf_app (wf_app (head_wf _) h) (four_wf _)
/-- what bytes begin with -/
def fDec (b : List Int) : List Int × Nat × Int :=
  if b.length < 8 then ([], 0, 2)
  else if b.take 8 ≠ head (unf b) then ([], 0, 4)
  else if 1048576 < unf b then ([], 0, 5)
  else if b.length < 12 + (unf b).toNat then ([], 0, 2)
  else if unf (b.drop (8 + (unf b).toNat)) ≠ crc (b.take (8 + (unf b).toNat)) then ([], 0, 4)
  else ((b.take (8 + (unf b).toNat)).drop 8, 12 + (unf b).toNat, 0)

theorem unf_head {n : Int} (h0 : 0 ≤ n) (h1 : n < 4294967296) (r : List Int) : unf (head n ++ r) = n := by
  rw [unf_app (by rw [head_len]; omega), head, unf_app (by rw [four_len]; omega), unf_four h0 h1]
/-- A record, read. -/
theorem fDec_enc {p : List Int} (r : List Int) (hp : p.length ≤ 1048576) : fDec (fEnc p ++ r) = (p, p.length + 12, 0) := by
  have hu : unf (fEnc p ++ r) = p.length := by
    rw [fEnc, List.append_assoc, List.append_assoc]
    exact unf_head (by omega) (by omega) _
  have hl : (fEnc p ++ r).length = p.length + 12 + r.length := by rw [List.length_append, fEnc_len]
  have h8 : (fEnc p ++ r).take 8 = head p.length := by
    rw [fEnc, List.append_assoc, List.append_assoc, List.take_left' (head_len _)]
  have ht : (fEnc p ++ r).take (8 + p.length) = head p.length ++ p := by
    rw [fEnc, List.append_assoc, List.take_left' (by rw [List.length_append, head_len])]
  have hd : (fEnc p ++ r).drop (8 + p.length) = four (crc (head p.length ++ p)) ++ r := by
    rw [fEnc, List.append_assoc, List.drop_left' (by rw [List.length_append, head_len])]
  unfold fDec
  rw [hu, hl, h8, Int.toNat_natCast, if_neg (by omega), if_neg (by simp), if_neg (by omega), if_neg (by omega), ht, hd, unf_app (by rw [four_len]; omega),
    unf_four (crc_le _).1 (crc_le _).2, if_neg (by simp), List.drop_left' (head_len _), Nat.add_comm 12]
theorem byte_map_inj : ∀ {xs ys : List Int}, Wf xs → Wf ys → (xs.map fun n => UInt8.ofNat n.toNat) = (ys.map fun n => UInt8.ofNat n.toNat) → xs = ys
  | [], [], _, _, _ => rfl
  | [], _ :: _, _, _, h => by simp at h
  | _ :: _, [], _, _, h => by simp at h
  | x :: xs, y :: ys, h0, h1, h => by
    simp only [List.map_cons, List.cons.injEq] at h
    have hx := h0 x (by simp)
    have hy := h1 y (by simp)
    have h2 := congrArg UInt8.toNat h.1
    simp only [UInt8.toNat_ofNat'] at h2
    have e : x = y := by omega
    rw [e, byte_map_inj (fun z hz => h0 z (by simp [hz])) (fun z hz => h1 z (by simp [hz])) h.2]
theorem bits_or_u32_nat (a b : Nat) (ha : a < 4294967296) (hb : b < 4294967296) : bits .or .u32 (a : Int) (b : Int) = ((a ||| b : Nat) : Int) := by
  have hx : a ||| b < 2 ^ 32 := Nat.or_lt_two_pow (by omega) (by omega)
  have h1 : (BitVec.ofInt 32 (a : Int)).toNat = a := by
    rw [BitVec.ofInt_natCast, BitVec.toNat_ofNat]; exact Nat.mod_eq_of_lt (by omega)
  have h2 : (BitVec.ofInt 32 (b : Int)).toNat = b := by
    rw [BitVec.ofInt_natCast, BitVec.toNat_ofNat]; exact Nat.mod_eq_of_lt (by omega)
  show IntKind.u32.wrap ((BitVec.ofInt 32 (a : Int) ||| BitVec.ofInt 32 (b : Int)).toNat : Int) = _
  rw [BitVec.toNat_or, h1, h2, IntKind.wrap_u32]
  omega
theorem or_sum (x y : Int) (i : Nat) (p : Nat) (hp : p = 2 ^ i) (hx : 0 ≤ x ∧ x < p) (hy : 0 ≤ y) (hb : y * p + x < 4294967296) : bits .or .u32 x (y * p) = y * p + x := by
  obtain ⟨x, rfl⟩ := Int.eq_ofNat_of_zero_le hx.1
  obtain ⟨y, rfl⟩ := Int.eq_ofNat_of_zero_le hy
  have h := Nat.two_pow_add_eq_or_of_lt (i := i) (b := x) (by omega) y
  rw [← hp, Nat.mul_comm p y] at h
  have hb' : y * p + x < 4294967296 := by
    refine Int.ofNat_lt.1 ?_
    rw [Int.natCast_add, Int.natCast_mul]
    exact hb
  have e : ((y : Int) * (p : Int)) = ((y * p : Nat) : Int) := (Int.natCast_mul y p).symm
  rw [e, bits_or_u32_nat x (y * p) (by omega) (by omega), Nat.or_comm, ← h, Int.natCast_add]
theorem from_val (x0 x1 x2 x3 : Int) (h0 : 0 ≤ x0 ∧ x0 < 256) (h1 : 0 ≤ x1 ∧ x1 < 256) (h2 : 0 ≤ x2 ∧ x2 < 256) (h3 : 0 ≤ x3 ∧ x3 < 256) :
    bits BinOp.or IntKind.u32 (bits BinOp.or IntKind.u32 (bits BinOp.or IntKind.u32 (IntKind.u32.wrap x0) (IntKind.u32.wrap (IntKind.u32.wrap x1 * 256))) (IntKind.u32.wrap (IntKind.u32.wrap x2 * 65536))) (IntKind.u32.wrap (IntKind.u32.wrap x3 * 16777216))
      = x0 + x1 * 256 + x2 * 65536 + x3 * 16777216 := by
  have e0 : IntKind.u32.wrap x0 = x0 := by rw [IntKind.wrap_u32]; omega
  have e1 : IntKind.u32.wrap x1 = x1 := by rw [IntKind.wrap_u32]; omega
  have e2 : IntKind.u32.wrap x2 = x2 := by rw [IntKind.wrap_u32]; omega
  have e3 : IntKind.u32.wrap x3 = x3 := by rw [IntKind.wrap_u32]; omega
  have f1 : IntKind.u32.wrap (x1 * 256) = x1 * 256 := by rw [IntKind.wrap_u32]; omega
  have f2 : IntKind.u32.wrap (x2 * 65536) = x2 * 65536 := by rw [IntKind.wrap_u32]; omega
  have f3 : IntKind.u32.wrap (x3 * 16777216) = x3 * 16777216 := by rw [IntKind.wrap_u32]; omega
  rw [e0, e1, e2, e3, f1, f2, f3]
  have g1 := or_sum x0 x1 8 256 rfl (by omega) h1.1 (by omega)
  rw [show ((256 : Nat) : Int) = 256 from rfl] at g1
  have g2 := or_sum (x1 * 256 + x0) x2 16 65536 rfl (by omega) h2.1 (by omega)
  rw [show ((65536 : Nat) : Int) = 65536 from rfl] at g2
  have g3 := or_sum (x2 * 65536 + (x1 * 256 + x0)) x3 24 16777216 rfl (by omega) h3.1 (by omega)
  rw [show ((16777216 : Nat) : Int) = 16777216 from rfl] at g3
  rw [g1, g2, g3]
  omega
end Go.Proofs.Ytiabdeciadfiiaa.O

/- A number in four bytes, and back: haystack/frame.four, haystack/frame.fromFour. -/
namespace Go.Proofs.Ytiabdeciadfiiaa.frame
open Go.RowKit H O

theorem four_any (v : Int) (w : World) (h0 : 0 ≤ v) (h1 : v < 4294967296) : Calls Try.prog 88 #[.int .u32 v] w fun e w' => e = .returned (.slice (some ⟨w.heap.size, 0, none⟩) 4 4) ∧ w' = w.alloc (.cells (iv .u8 (four v)).toArray 5) := by
  go_enter Try.func88, Try.ntmps88
  go_wp2
  go_ret
  have e : v / 16777216 % 256 = v / 16777216 := by omega
  refine ⟨rfl, ?_⟩
  show _ = w.alloc (.cells #[.int .u8 (v % 256), .int .u8 (v / 256 % 256), .int .u8 (v / 65536 % 256), .int .u8 (v / 16777216 % 256)] 5)
  rw [e]
set_option maxHeartbeats 4000000 in
theorem from_any (A : Option Addr) (n c : Nat) (xs : List Int) (w : World) (hn : xs.length = n) (h0 : Rd w A (iv .u8 xs)) (hw : Wf xs) (h4 : 4 ≤ n) : Calls Try.prog 92 #[.slice A n c] w fun e w' => e = .returned (.int .u32 (unf xs)) ∧ ∃ k, w' = w.drewN k := by
  obtain ⟨a, rfl, d0⟩ := h0.int 0 (by omega)
  obtain ⟨_, e, d1⟩ := h0.int 1 (by omega)
  cases e
  obtain ⟨_, e, d2⟩ := h0.int 2 (by omega)
  cases e
  obtain ⟨_, e, d3⟩ := h0.int 3 (by omega)
  cases e
  obtain ⟨x0, h0'⟩ : ∃ x, xs[0] = x := ⟨_, rfl⟩
  obtain ⟨x1, h1'⟩ : ∃ x, xs[1] = x := ⟨_, rfl⟩
  obtain ⟨x2, h2'⟩ : ∃ x, xs[2] = x := ⟨_, rfl⟩
  obtain ⟨x3, h3'⟩ : ∃ x, xs[3] = x := ⟨_, rfl⟩
  rw [h0'] at d0
  rw [h1'] at d1
  rw [h2'] at d2
  rw [h3'] at d3
  have k0 : 0 < n := by omega
  have k1 : (1 : Int) < (n : Int) := by omega
  have k2 : (2 : Int) < (n : Int) := by omega
  have k3 : (3 : Int) < (n : Int) := by omega
  obtain ⟨b, o, s⟩ := a
  obtain rfl : s = none := by simpa [Addr.add] using World.cell?_spot d0
  rw [Go.WideShapes.add_plain] at d0 d1 d2 d3
  rw [Nat.add_zero] at d0
  have HV := As.mk (from_val x0 x1 x2 x3 (by rw [← h0']; exact hw _ (List.getElem_mem _)) (by rw [← h1']; exact hw _ (List.getElem_mem _)) (by rw [← h2']; exact hw _ (List.getElem_mem _)) (by rw [← h3']; exact hw _ (List.getElem_mem _)))
  have HU : As (unf xs = x0 + x1 * 256 + x2 * 65536 + x3 * 16777216) := ⟨by
    rw [← h0', ← h1', ← h2', ← h3', unf]
    simp only [List.getD_eq_getElem?_getD]
    rw [List.getElem?_eq_getElem (by omega), List.getElem?_eq_getElem (by omega), List.getElem?_eq_getElem (by omega), List.getElem?_eq_getElem (by omega)]
    rfl⟩
  clear h0 hn h0' h1' h2' h3' hw
  go_enter Try.func92, Try.ntmps92
  go_wp2
  go_region_held3 (fun w' => w'.cell? ⟨b, o, none⟩ = some (.int .u8 x0) ∧ w'.cell? ⟨b, o + 1, none⟩ = some (.int .u8 x1) ∧ w'.cell? ⟨b, o + 2, none⟩ = some (.int .u8 x2) ∧ w'.cell? ⟨b, o + 3, none⟩ = some (.int .u8 x3)) (exact ⟨d0, d1, d2, d3⟩) (fail)
  go_wp2
  go_ret
  rw [HU.out, ← HV.out]
  exact ⟨rfl, 1, rfl⟩
end Go.Proofs.Ytiabdeciadfiiaa.frame

/- bytes.Join with nothing between: the rows, one behind the other, in new memory. -/
namespace Go.Proofs.Ytiabdeciadfiiaa.joins
open Go.RowKit H O

/-- A row that is filled from the front, in the block behind w: the bytes zs are laid, T have room. -/
structure Bf (w wr : World) (T : Nat) (zs : List Int) : Prop where
  kp : Kp [] w wr
  ex : ∃ cur : List Value, wr.heap[w.heap.size]? = some (.cells cur.toArray 5 (0, 0)) ∧ T ≤ cur.length ∧ cur.take zs.length = iv .u8 zs ∧ zs.length ≤ T

theorem hs8 : (Try.prog.info? 5).map (·.size) = some 1 := by kernel_rfl
/-- b[p:] of a row of T. -/
theorem tail_of (h T p : Nat) (hb : p ≤ T) : ∃ tl, (∀ W, (Instr.slice 26 (.slice (some ⟨h, 0, none⟩) T T) (some (.int .i64 (p : Int))) none none).run Try.prog W = .ok (.slice (some tl) (T - p) (T - p)) W) ∧ (p < T → tl = ⟨h, p, none⟩) := by
  have ht' : Try.prog.underlying 26 = some (.slice (Try.prog.elem 26)) := by kernel_rfl
  have hz : ∀ w, (Go.sizeOf (Try.prog.elem 26)).run Try.prog w = .ok 1 w := fun w => by
    obtain ⟨i, hi, _⟩ := Option.map_eq_some_iff.1 hs8
    rw [show Try.prog.elem 26 = 5 from by kernel_rfl, run_sizeOf w hi, show Try.prog.cellsOf 5 = 1 from by kernel_rfl]
  refine ⟨if T = p then ⟨h, 0, none⟩ else (⟨h, 0, none⟩ : Addr).add p, fun W => ?_, fun hp => ?_⟩
  · rw [run_slice_l W _ _ _ _ ht' .i64 _ (by omega) (by omega), hz]
    simp only [Result.andThen, sliced, Int.toNat_natCast, Nat.mul_one, Option.map_some]
    split <;> rfl
  · rw [if_neg (by omega), Addr.add_lit, Nat.zero_add]

/-- The operation that writes slot n. -/
theorem at_slot (n : Nat) {P : Program} {w : World} {ops : Array Oper} {rest : List Oper} {op : Op} {ty : TypeId} {pos : String} {after : Array Edge} {guard : Option (Nat × Bool)} {a : Act} {Q : Exit → Act → World → Prop}
    (h : wpList P ops Q (⟨some n, op, ty, pos, after, guard⟩ :: rest) a w) : wpList P ops Q (⟨some n, op, ty, pos, after, guard⟩ :: rest) a w := h
theorem Bf.copy {w wr : World} {T p m c : Nat} {zs x : List Int} (h : Bf w wr T zs) (hz : zs.length = p) {ops : Array Oper} {rest : List Oper} {o : Oper} {a : Act} {Q : Exit → Act → World → Prop} (hgd : o.guard = none) (d s : Operand)
    (ho : o.op = .call { callee := .builtin .copy, args := #[d, s], argTypes := #[26, 26] }) (tl : Addr) (dl dc : Nat) (hdl : dl = T - p) (htl : p < T → tl = ⟨w.heap.size, p, none⟩) (hd : a.eval d = .slice (some tl) dl dc)
    (A : Option Addr) (hs : a.eval s = .slice A m c) (hx : x.length = m) (hr : Rd w A (iv .u8 x)) (hfit : p + m ≤ T)
    (hk : ∀ w', Bf w w' T (zs ++ x) → wpList Try.prog ops Q rest (a.put o.dst (.int .i64 (m : Int))) w') : wpList Try.prog ops Q (o :: rest) a wr := by
  subst hz hx hdl
  obtain ⟨cur, hg, hT, ht, hl⟩ := h.ex
  have hil := iv_len .u8 x
  refine wpList_copy_splice hgd d s _ _ ho 5 Try.underlying26 hs8 (some tl) A _ _ _ _ hd hs w.heap.size zs.length cur 5 hg (iv .u8 x) (by rw [hil]; exact (Nat.min_eq_left (by omega)).symm) ?_ (by rw [hil]; omega) (iv_one _ _) w.heap.size w h.kp.below (Nat.le_refl _) ?_
  · intro hp
    rw [hil] at hp
    refine ⟨by rw [htl (by omega)], ?_⟩
    obtain ⟨ad, rfl, _⟩ := hr.lt (by rw [hil]; exact hp)
    refine ⟨ad, rfl, fun j v hv => ?_⟩
    obtain ⟨ad', he, hc⟩ := (h.kp.rd_new hr (by simp)) j v hv
    cases he
    exact hc
  · intro w' hw' hb'
    rw [hil]
    refine hk w' ⟨Kp.of_below hb' _, _, hw'.out, ?_, ?_, ?_⟩
    · rw [length_splice _ _ _ (by rw [hil]; omega)]
      exact hT
    · have e1 : min (zs.length + x.length) zs.length = zs.length := by omega
      have e2 : min zs.length cur.length = zs.length := by omega
      have e3 : zs.length + x.length - zs.length = x.length := by omega
      unfold splice
      rw [iv_app, List.length_append, List.take_append, List.take_append, List.take_take, List.length_take, hil, e1, e2, e3, ht, List.take_of_length_le (by rw [hil]; exact Nat.le_refl _), Nat.sub_self, List.take_zero, List.append_nil]
    · rw [List.length_append]
      exact hfit
theorem Bf.rd {w wr : World} {T : Nat} {zs : List Int} (h : Bf w wr T zs) : Rd wr (some ⟨w.heap.size, 0, none⟩) (iv .u8 zs) := by
  obtain ⟨cur, hg, hT, ht, hl⟩ := h.ex
  intro j v hv
  refine ⟨_, rfl, ?_⟩
  rw [← ht, List.getElem?_take] at hv
  split at hv
  · rw [Addr.add_lit, Nat.zero_add]
    exact blk_cell hg j (by simpa using hv)
  · cases hv
theorem Bf.lt {w wr : World} {T : Nat} {zs : List Int} (h : Bf w wr T zs) : w.heap.size < wr.heap.size := by
  obtain ⟨cur, hg, _⟩ := h.ex
  exact lt_of_block hg

/-- What Join hands back: a row of its own, or one that is full. -/
def JoinPost (xs : List Int) (w : World) (e : Ending) (w' : World) : Prop :=
  ∃ v, e = .returned v ∧ Kp [] w w' ∧ (Own 5 .u8 w' w.heap.size v xs ∨ ∃ g, v = .slice (some ⟨g, 0, none⟩) xs.length xs.length ∧ w.heap.size ≤ g ∧ g < w'.heap.size ∧ Rd w' (some ⟨g, 0, none⟩) (iv .u8 xs))

theorem flat_step (l : List (List Int)) (k : Nat) (h : k < l.length) : (l.take (k + 1)).flatten = (l.take k).flatten ++ l[k] := by
  rw [take_succ' l k h, List.flatten_append]
  simp
theorem flat_le (l : List (List Int)) (k : Nat) : (l.take k).flatten.length ≤ l.flatten.length := by
  have h := congrArg (fun z => z.flatten.length) (List.take_append_drop k l)
  simp only [List.flatten_append, List.length_append] at h
  omega

set_option maxHeartbeats 8000000 in
set_option maxRecDepth 100000 in
theorem join_many (A : Option Addr) (n c : Nat) (l : List (List Int)) (w : World) (hn : l.length = n) (h2 : 2 ≤ n) (hr : Rs [] w A l) (hc : n ≤ c) (hw : ∀ x ∈ l, Wf x) (hb : l.flatten.length ≤ 140737488351232) (hm : n ≤ 140737488351232) :
    Calls Try.prog 91 #[.slice A n c, .slice none 0 0] w (JoinPost l.flatten w) := by
  obtain ⟨a, rfl⟩ : ∃ a, A = some a := by
    obtain ⟨a, _, _, h, _⟩ := hr 0 (by omega)
    exact ⟨a, h⟩
  have HR := As.mk hr
  have HL := As.mk hn
  have HW := As.mk hw
  clear hr hn hw
  have f0 : ((n : Int) == 0) = false := beq_eq_false_iff_ne.2 (by omega)
  have f1 : ((n : Int) == 1) = false := beq_eq_false_iff_ne.2 (by omega)
  have hs8 : (Try.prog.info? 5).map (·.size) = some 1 := by kernel_rfl
  go_enter Try.func91, Try.ntmps91
  go_wp2
  go_loopw [5, 44] (fun s5 s44 wr => ∃ k : Nat, s44 = .int .i64 (k : Int) ∧ k ≤ n ∧ s5 = .int .i64 (((l.take k).flatten.length : Nat) : Int) ∧ As (wr = w)) (fun _ i _ => n - (intOf i).toNat)
  case atStart => exact ⟨0, rfl, by omega, rfl, ⟨rfl⟩⟩
  case round =>
    obtain ⟨k, rfl, hk, rfl, ⟨rfl⟩⟩ := hrel
    by_cases hlt : k < n
    · have hlx : k < l.length := by rw [HL.out]; exact hlt
      obtain ⟨a', Aj, cj, ha', _, d0, hcj, _, _⟩ := HR.out k hlx
      cases ha'
      have hfs := congrArg List.length (flat_step l k hlx)
      have hfl := flat_le l (k + 1)
      rw [List.length_append] at hfs
      obtain ⟨len, hlen⟩ : ∃ len, l[k].length = len := ⟨_, rfl⟩
      obtain ⟨acc, hacc⟩ : ∃ acc, (l.take k).flatten.length = acc := ⟨_, rfl⟩
      obtain ⟨acc', hacc'⟩ : ∃ acc', (l.take (k + 1)).flatten.length = acc' := ⟨_, rfl⟩
      rw [hlen] at d0 hcj hfs
      rw [hacc, hacc'] at hfs
      rw [hacc'] at hfl
      rw [hacc]
      have hb' : ¬ (9223372036854775807 - (acc : Int) < (len : Int)) := by omega
      have HA' := As.mk hacc'
      have HFS := As.mk hfs
      have HFL : acc + len ≤ l.flatten.length := by omega
      clear hfs hfl hlen hacc hacc'
      go_wp2
      go_roundw
      case rel => exact ⟨k + 1, by go_num, by omega, by rw [HA'.out, HFS.out]; go_num, ⟨trivial⟩⟩
      case measure => simp [intOf]; omega
    · obtain rfl : k = n := by omega
      have hall : l.take k = l := List.take_of_length_le (by rw [HL.out]; omega)
      rw [hall]
      obtain ⟨T, hT⟩ : ∃ T, l.flatten.length = T := ⟨_, rfl⟩
      rw [hT] at hb ⊢
      have HT := As.mk hT
      clear hall hT
      obtain ⟨cs, hrunM, hle, _⟩ := Lib.run_makeNoZero (P := Try.prog) wr #[3] 26 5 Try.underlying26 T (by omega)
      have hcall : (callFunc 93 #[.int .i64 (T : Int)]).run Try.prog wr = .ok (.value (.slice (some ⟨wr.heap.size, 0, none⟩) T cs.size)) ((wr.alloc (.cells cs 5)).drewN 2) := by
        rw [run_callFunc_extern Try.func93 (by kernel_rfl) (by kernel_rfl) (by kernel_rfl) (e := Extern.BytealgMakeNoZero.makeNoZero #[3] #[26]) (by kernel_rfl), hrunM]
        rfl
      have i0 : (0 : Int) ≤ (T : Int) := by omega
      have i1 : (T : Int) ≤ (cs.size : Int) := by omega
      have B0 : Bf wr ((wr.alloc (.cells cs 5)).drewN 2) T [] := ⟨((Kp.refl [] wr).alloc _).drewN 2, cs.toList, by
        have := heap_alloc_new wr (.cells cs 5)
        simpa using this, by simpa using hle, by simp [iv], Nat.zero_le _⟩
      obtain ⟨a', A0, c0, ha', _, d0, hc0, _, r0⟩ := HR.out 0 (by rw [HL.out]; omega)
      cases ha'
      obtain ⟨x0, hx0⟩ : ∃ x0, x0 = l[0]'(by rw [HL.out]; omega) := ⟨_, rfl⟩
      rw [← hx0] at d0 hc0 r0
      obtain ⟨m0, hm0⟩ : ∃ m0, x0.length = m0 := ⟨_, rfl⟩
      rw [hm0] at d0 hc0
      have e0 := B0.kp.cell d0 (by simp)
      rw [add_zero'] at e0
      have hfit0 : 0 + m0 ≤ T := by
        have h1 := flat_step l 0 (by rw [HL.out]; omega)
        have h2 := flat_le l 1
        rw [h1, List.take_zero, List.flatten_nil, List.nil_append, ← hx0, hm0, HT.out] at h2
        omega
      have HB0 := As.mk B0
      have HR0 := As.mk r0.rd
      have HM0 := As.mk hm0
      have HX0 := As.mk hx0
      clear hrunM B0 r0 d0 hx0 hm0
      go_wp2_with (with_reducible refine at_slot 68 ?_; go_loud (refine HB0.out.copy (p := 0) rfl rfl (.tmp 64) (.tmp 67) rfl ⟨wr.heap.size, 0, none⟩ T T (Nat.sub_zero T).symm (fun _ => rfl) rfl A0 rfl HM0.out HR0.out hfit0 ?_); go_loud (intro w1 B1); go_loud (have HB1 := As.mk B1); rw [List.nil_append] at HB1; clear B1)
      obtain ⟨w0, rfl⟩ : ∃ w0, w0 = wr := ⟨_, rfl⟩
      have HC0 : As ((l.take (0 + 1)).flatten = x0) := ⟨by rw [flat_step l 0 (by rw [HL.out]; omega), List.take_zero, List.flatten_nil, List.nil_append, ← HX0.out]⟩
      have hc1 : ¬ c = 1 := by omega
      go_loopw [9, 72] (fun s9 s72 wr => ∃ j : Nat, s72 = .int .i64 (j : Int) ∧ j ≤ k - 1 ∧ s9 = .int .i64 (((l.take (j + 1)).flatten.length : Nat) : Int) ∧ As (Bf w0 wr T (l.take (j + 1)).flatten)) (fun _ i _ => k - 1 - (intOf i).toNat)
      case atStart => exact ⟨0, rfl, by omega, by rw [HC0.out, HM0.out], ⟨by rw [HC0.out]; exact HB1.out⟩⟩
      case round =>
        obtain ⟨j, rfl, hj, rfl, HB⟩ := hrel
        obtain ⟨p, hp⟩ : ∃ p, (l.take (j + 1)).flatten.length = p := ⟨_, rfl⟩
        rw [hp]
        have hpT : p ≤ T := by have := flat_le l (j + 1); rw [hp, HT.out] at this; exact this
        have HP := As.mk hp
        by_cases hlt : j < k - 1
        · have hlx : j + 1 < l.length := by rw [HL.out]; omega
          obtain ⟨a', Aj, cj, ha', _, d1, hcj, _, rj⟩ := HR.out (j + 1) hlx
          cases ha'
          obtain ⟨x, hx⟩ : ∃ x, x = l[j + 1] := ⟨_, rfl⟩
          rw [← hx] at d1 hcj rj
          obtain ⟨len, hlen⟩ : ∃ len, x.length = len := ⟨_, rfl⟩
          rw [hlen] at d1 hcj
          have d2 := HB.out.kp.cell d1 (by simp)
          rw [show a.add (j + 1) = ⟨a.block, a.off + 1 + j, none⟩ from by unfold Addr.add; rw [if_neg (by omega)]; congr 1; omega] at d2
          have hstep := flat_step l (j + 1) hlx
          rw [← hx] at hstep
          have hlens := congrArg List.length hstep
          rw [List.length_append, hp, hlen] at hlens
          have hfit : p + len ≤ T := by have := flat_le l (j + 1 + 1); rw [hlens, HT.out] at this; exact this
          obtain ⟨tl, hsl, htl⟩ := tail_of w0.heap.size T p hpT
          have HLEN := As.mk hlen
          have HRJ := As.mk rj.rd
          have HSTEP := As.mk hstep
          have HLENS := As.mk hlens
          have HTL := As.mk htl
          have hjz : (j : Int) < ((k - 1 : Nat) : Int) := by omega
          clear hx d1 rj hstep hlens htl hlen hp
          go_wp2_with (first
            | (with_reducible refine at_slot 81 ?_; refine wpList_copy_nothing rfl (.tmp 79) (.tmp 80) 26 26 rfl 5 Try.underlying26 hs8 (some tl) none (T - p) (T - p) 0 0 rfl rfl (Nat.zero_min _) ?_)
            | (with_reducible refine at_slot 88 ?_; refine HB.out.copy HP.out rfl (.tmp 86) (.tmp 87) rfl tl (T - p) (T - p) rfl HTL.out rfl Aj rfl HLEN.out HRJ.out hfit ?_; intro w5 B5; have HB5 := As.mk B5; clear B5))
          go_roundw
          case rel => exact ⟨j + 1, by go_num, by omega, by rw [HLENS.out]; go_num, ⟨by rw [HSTEP.out]; exact HB5.out⟩⟩
          case measure => simp [intOf]; omega
        · obtain rfl : j = k - 1 := by omega
          have hjz : ¬ (((k - 1 : Nat) : Int) < ((k - 1 : Nat) : Int)) := by omega
          have hall : l.take (k - 1 + 1) = l := List.take_of_length_le (by rw [HL.out]; omega)
          rw [hall] at HB
          clear hp
          go_wp2
          go_ret
          exact ⟨_, rfl, HB.out.kp, .inr ⟨w0.heap.size, by rw [HT.out]; rfl, Nat.le_refl _, HB.out.lt, HB.out.rd⟩⟩

set_option maxHeartbeats 4000000 in
theorem join_any (A : Option Addr) (n c : Nat) (l : List (List Int)) (w : World) (hn : l.length = n) (hr : Rs [] w A l) (hc : n ≤ c) (hw : ∀ x ∈ l, Wf x) (hb : l.flatten.length ≤ 140737488351232) (hm : n ≤ 140737488351232) :
    Calls Try.prog 91 #[.slice A n c, .slice none 0 0] w (JoinPost l.flatten w) := by
  by_cases h2 : 2 ≤ n
  · exact join_many A n c l w hn h2 hr hc hw hb hm
  · by_cases h0 : n = 0
    · subst h0
      have hl : l = [] := List.eq_nil_of_length_eq_zero hn
      subst hl
      clear hr hw hb
      go_enter Try.func91, Try.ntmps91
      go_wp2
      go_ret
      exact ⟨_, rfl, (Kp.refl [] w).alloc _, .inl ⟨own_new w [] _ (Nat.zero_le _), by simp [Value.ownBlock]⟩⟩
    · obtain rfl : n = 1 := by omega
      obtain ⟨a, A0, c0, rfl, _, d0, hc0, hn0, r0⟩ := hr 0 (by omega)
      obtain ⟨x, hx⟩ : ∃ x, x = l[0]'(by omega) := ⟨_, rfl⟩
      rw [← hx] at d0 hc0 r0
      rw [add_zero'] at d0
      obtain ⟨m, hlen⟩ : ∃ m, x.length = m := ⟨_, rfl⟩
      rw [hlen] at d0 hc0
      have hfl : l.flatten = x := by
        match l, hn, hx with
        | [y], _, hx => rw [hx]; simp
      rw [hfl] at hb ⊢
      rw [hlen] at hb
      have HR := As.mk r0.rd
      have HN := As.mk hn0
      have HX := As.mk hlen
      clear hr hw hx hn r0 hn0 hlen hfl
      go_enter Try.func91, Try.ntmps91
      go_wp2_with (at_builtin; refine clone.app8 rfl (.const (.slice none 0 0)) (.tmp 21) rfl (.slice none 0 0) 0 [] rfl (World.ownsRow_nil w 0 _ 1) A0 m c0 (iv .u8 x) rfl (by rw [iv_len, HX.out]) HR.out HN.out (iv_one _ _) (by omega) ?_; intro v6 w6 o6 k6 a6; have HO6 := As.mk o6; have HK6 := As.mk k6; have HA6 := As.mk a6; clear o6 k6 a6)
      go_ret
      exact ⟨v6, rfl, HK6.out.mono (by simp [Value.ownBlock]), .inl (own_of_app HX.out HO6.out HA6.out (Nat.le_refl _) (by simp [Value.ownBlock]))⟩

theorem ojoin_any (A : Option Addr) (n c : Nat) (l : List (List Int)) (w : World) (hn : l.length = n) (hr : Rs [] w A l) (hc : n ≤ c) (hw : ∀ x ∈ l, Wf x) (hb : l.flatten.length ≤ 140737488351232) (hm : n ≤ 140737488351232) :
    Calls Try.prog 86 #[.slice A n c] w (JoinPost l.flatten w) := by
  have HJ := As.mk (join_any A n c l w hn hr hc hw hb hm)
  clear hn hr hw hb
  go_enter Try.func86, Try.ntmps86
  go_wp2_with (go_at_call 91; refine HJ.out.mono ?_; rintro e w1 ⟨v, rfl, k1, o1⟩; have HK := As.mk k1; have HO := As.mk o1; clear k1 o1)
  go_ret
  exact ⟨v, rfl, HK.out, HO.out⟩
/-- What is handed back, read. -/
theorem post_rd {xs : List Int} {w w' : World} {v : Value} (o : Own 5 .u8 w' w.heap.size v xs ∨ ∃ g, v = .slice (some ⟨g, 0, none⟩) xs.length xs.length ∧ w.heap.size ≤ g ∧ g < w'.heap.size ∧ Rd w' (some ⟨g, 0, none⟩) (iv .u8 xs))
    (n : Nat) (hn : xs.length = n) (hm : n ≤ 140737488351232) : ∃ A c, v = .slice A n c ∧ n ≤ c ∧ c ≤ 9223372036854775807 ∧ Rd w' A (iv .u8 xs) ∧ (A = none → c = 0) := by
  subst hn
  rcases o with o | ⟨g, rfl, _, _, h⟩
  · obtain ⟨A, c, rfl, h1, h2, h3, h4⟩ := own_rd o.1
    exact ⟨A, c, rfl, h1, h2, h3, h4⟩
  · exact ⟨_, _, rfl, Nat.le_refl _, by omega, h, by simp⟩

end Go.Proofs.Ytiabdeciadfiiaa.joins

/- bytes.Equal. -/
namespace Go.Proofs.Ytiabdeciadfiiaa.frame
open Go.RowKit H O

theorem equal_any (A0 A1 : Option Addr) (n0 c0 n1 c1 : Nat) (xs ys : List Int) (w : World) (l0 : xs.length = n0) (l1 : ys.length = n1) (h0 : Rd w A0 (iv .u8 xs)) (h1 : Rd w A1 (iv .u8 ys)) (w0 : Wf xs) (w1 : Wf ys) :
    Calls Try.prog 68 #[.slice A0 n0 c0, .slice A1 n1 c1] w fun e w' => e = .returned (.bool (decide (xs = ys))) ∧ w' = w := by
  have hcv : ∀ (A : Option Addr) (n c : Nat) (zs : List Int), zs.length = n → Rd w A (iv .u8 zs) → (convert 26 9 (.slice A n c)).run Try.prog w = .ok (.string (strOfNums zs)) w := by
    intro A n c zs hz hr
    by_cases hn : 0 < n
    · obtain ⟨a, rfl, d0⟩ := hr.int 0 (by omega)
      obtain ⟨b, o, s⟩ := a
      obtain rfl : s = none := by simpa [Addr.add] using World.cell?_spot d0
      refine run_convert_bytes_arg w 26 5 Try.underlying26 Try.underlying5 b o n c zs hz ?_ 9 Try.underlying9
      intro i hi
      obtain ⟨_, e, d⟩ := hr.int i (by omega)
      cases e
      rw [Go.WideShapes.add_plain] at d
      rw [d]
      simp [List.getD, show i < zs.length by omega]
    · obtain rfl : n = 0 := by omega
      obtain rfl : zs = [] := List.eq_nil_of_length_eq_zero hz
      rw [run_convert_bytes_string w 26 9 5 _ 0 c Try.underlying26 Try.underlying5 Try.underlying9]
      cases A <;> rfl
  have k0 := hcv A0 n0 c0 xs l0 h0
  have k1 := hcv A1 n1 c1 ys l1 h1
  clear hcv
  go_enter Try.func68, Try.ntmps68
  go_wp2
  go_ret
  refine ⟨?_, rfl⟩
  have hxy : ((strOfNums xs).toList == (strOfNums ys).toList) = decide (xs = ys) := by
    rw [ByteArray.toList_eq, ByteArray.toList_eq, strOfNums_data, strOfNums_data, Bool.eq_iff_iff, beq_iff_eq, decide_eq_true_eq]
    constructor
    · exact byte_map_inj w0 w1
    · rintro rfl; rfl
  rw [← hxy]
  rfl
end Go.Proofs.Ytiabdeciadfiiaa.frame

/- op.Decode. -/
namespace Go.Proofs.Ytiabdeciadfiiaa.opk
open Go.RowKit H O haystacklaw13

theorem conv_str {w : World} {A : Option Addr} {n c : Nat} {zs : List Int} (hz : zs.length = n) (hr : Rd w A (iv .u8 zs)) : (convert 26 9 (.slice A n c)).run Try.prog w = .ok (.string (strOfNums zs)) w := by
  by_cases hn : 0 < n
  · obtain ⟨a, rfl, d0⟩ := hr.int 0 (by omega)
    obtain ⟨b, o, s⟩ := a
    obtain rfl : s = none := by simpa [Addr.add] using World.cell?_spot d0
    refine run_convert_bytes_arg w 26 5 Try.underlying26 Try.underlying5 b o n c zs hz ?_ 9 Try.underlying9
    intro i hi
    obtain ⟨_, e, d⟩ := hr.int i (by omega)
    cases e
    rw [Go.WideShapes.add_plain] at d
    rw [d]
    simp [List.getD, show i < zs.length by omega]
  · obtain rfl : n = 0 := by omega
    obtain rfl : zs = [] := List.eq_nil_of_length_eq_zero hz
    rw [run_convert_bytes_string w 26 9 5 _ 0 c Try.underlying26 Try.underlying5 Try.underlying9]
    cases A <;> rfl
theorem kb_str {zs : List Int} (h : Wf zs) : kb (strOfNums zs) = zs := by
  rw [kb, strOfNums_data, List.map_map]
  conv => rhs; rw [← List.map_id zs]
  refine List.map_congr_left fun x hx => ?_
  have := h x hx
  simp only [Function.comp, UInt8.toNat_ofNat', id]
  omega
theorem str_size (zs : List Int) : (strOfNums zs).size = zs.length := strOfNums_size zs

/-- what bytes are as an op -/
def dOpR (xs : List Int) : Int × Int × Int × ByteArray × List Int × Int :=
  match stNum (some xs) with
  | (n0, s1) => match stNum s1 with
    | (n1, s2) => match stNum s2 with
      | (n2, s3) => match stBytes s3 with
        | (p, s4) => match stBytes s4 with
          | (t, s5) => if s5 = some [] ∧ opErr n0 n1 n2 p.length t.length = 0 ∧ opBytes n0 n1 n2 (strOfNums p) t = xs then (n0, n1, n2, strOfNums p, t, 0) else (0, 0, 0, ⟨#[]⟩, [], 3)
theorem dOpR_eq {xs : List Int} {n0 n1 n2 : Nat} {s1 s2 s3 s4 s5 : Option (List Int)} {p t : List Int} (h0 : stNum (some xs) = (n0, s1)) (h1 : stNum s1 = (n1, s2)) (h2 : stNum s2 = (n2, s3)) (h3 : stBytes s3 = (p, s4)) (h4 : stBytes s4 = (t, s5)) :
    dOpR xs = if s5 = some [] ∧ opErr n0 n1 n2 p.length t.length = 0 ∧ opBytes n0 n1 n2 (strOfNums p) t = xs then ((n0 : Int), (n1 : Int), (n2 : Int), strOfNums p, t, 0) else (0, 0, 0, ⟨#[]⟩, [], 3) := by
  simp only [dOpR, h0, h1, h2, h3, h4]

/-- behind Decode -/
def ODec (xs : List Int) (w : World) (e : Ending) (w' : World) : Prop :=
  ∃ (k c q : Int) (key : ByteArray) (text : List Int) (er : Int) (A : Option Addr) (n cp : Nat), dOpR xs = (k, c, q, key, text, er) ∧ e = .returned (.tuple #[.agg #[.int .i64 k, .int .i64 c, .int .i64 q, .string key, .slice A n cp], .int .i64 er]) ∧
    text.length = n ∧ Rd w' A (iv .u8 text) ∧ n ≤ cp ∧ (A = none → cp = 0) ∧ Kp [] w w'
theorem own_cases {w : World} {lo : Nat} {v : Value} {p : List Int} {n : Nat} (o : Own 5 .u8 w lo v p) (hn : p.length = n) : ∃ A c, v = .slice A n c ∧ n ≤ c ∧ Rd w A (iv .u8 p) ∧ (A = none → c = 0) := by
  obtain ⟨A, c, rfl, h1, _, h3, h4⟩ := own_rd o.1
  rw [hn] at h1 ⊢
  exact ⟨A, c, rfl, h1, h3, h4⟩

theorem stBytes_left {s : Option (List Int)} {m : Nat} (h : (left s).length ≤ m) : (left (stBytes s).2).length ≤ m := by
  unfold stBytes
  have h1 := reader.left_le h
  obtain ⟨a, s1⟩ : ∃ a, (stNum s).2 = a := ⟨_, rfl⟩
  rw [s1] at h1 ⊢
  cases a with
  | none => simp [stRaw, left]
  | some l =>
    simp only [stRaw]
    split
    · simp [left]
    · simp only [left, Option.getD_some, List.length_drop] at h1 ⊢
      omega

theorem stBytes_len {s : Option (List Int)} {m : Nat} (h : (left s).length ≤ m) : (stBytes s).1.length ≤ m := by
  unfold stBytes
  have h1 := reader.left_le h
  obtain ⟨a, s1⟩ : ∃ a, (stNum s).2 = a := ⟨_, rfl⟩
  rw [s1] at h1 ⊢
  cases a with
  | none => simp [stRaw]
  | some l =>
    simp only [stRaw]
    split
    · simp
    · simp only [left, Option.getD_some] at h1
      simp only [List.length_take]
      omega
theorem stNum_wf {s : Option (List Int)} (h : Wf (left s)) : Wf (left (stNum s).2) := by
  cases s with
  | none => exact Wf.nil
  | some l =>
    cases hd : dec l with
    | none => simp only [stNum, hd]; exact Wf.nil
    | some x =>
      obtain ⟨v, r⟩ := x
      obtain ⟨q, e, _⟩ := dec_suffix hd
      simp only [stNum, hd, left, Option.getD_some] at h ⊢
      intro y hy
      exact h y (by rw [e]; simp [hy])
theorem stBytes_wf {s : Option (List Int)} (h : Wf (left s)) : Wf (stBytes s).1 ∧ Wf (left (stBytes s).2) := by
  unfold stBytes
  have h1 := stNum_wf h
  obtain ⟨a, s1⟩ : ∃ a, (stNum s).2 = a := ⟨_, rfl⟩
  rw [s1] at h1 ⊢
  cases a with
  | none => exact ⟨Wf.nil, Wf.nil⟩
  | some l =>
    simp only [stRaw]
    split
    · exact ⟨Wf.nil, Wf.nil⟩
    · exact ⟨Wf.take h1 _, Wf.drop h1 _⟩
theorem ob_wf {k c q : Int} {key : ByteArray} {t : List Int} (ht : Wf t) : Wf (opBytes k c q key t) := by
  rw [opBytes_eq]
  exact wf_app (num_u8 _) (wf_app (num_u8 _) (wf_app (num_u8 _) (wf_app (row_u8 _ (kb_wf _)) (wf_app (row_u8 _ ht) Wf.nil))))
theorem odec_none {xs : List Int} {w w' : World} (h : dOpR xs = (0, 0, 0, ⟨#[]⟩, [], 3)) (k : Kp [] w w') : ODec xs w (.returned (.tuple #[.agg #[.int .i64 0, .int .i64 0, .int .i64 0, .string ⟨#[]⟩, .slice none 0 0], .int .i64 3])) w' :=
  ⟨0, 0, 0, ⟨#[]⟩, [], 3, none, 0, 0, h, rfl, rfl, Rd.nil _ _, Nat.le_refl _, fun _ => rfl, k⟩

end Go.Proofs.Ytiabdeciadfiiaa.opk

/- b[p:] and b[:h]: what they give, as rules for the walk. -/
namespace Go.Proofs.Ytiabdeciadfiiaa.H
open Go.RowKit

theorem el1 (T E : TypeId) (h : Try.prog.elem T = E) (hs : (Try.prog.info? E).map (·.size) = some 1) (hc : Try.prog.cellsOf E = 1) : ∀ w, (Go.sizeOf (Try.prog.elem T)).run Try.prog w = .ok 1 w := fun w => by
  obtain ⟨i, hi, _⟩ := Option.map_eq_some_iff.1 hs
  rw [h, run_sizeOf w hi, hc]
/-- b[p:] -/
theorem slice_tail {T : TypeId} (ht : Try.prog.underlying T = some (.slice (Try.prog.elem T))) (hz : ∀ w, (Go.sizeOf (Try.prog.elem T)).run Try.prog w = .ok 1 w) (a : Addr) (n c p : Nat) (hb : p ≤ n) (hc : n ≤ c) :
    ∃ a2 : Addr, (∀ W, (Instr.slice T (.slice (some a) n c) (some (.int .i64 (p : Int))) none none).run Try.prog W = .ok (.slice (some a2) (n - p) (c - p)) W) ∧ ∀ w vs, vs.length = n → Rd w (some a) vs → Rd w (some a2) (vs.drop p) := by
  refine ⟨cutAt a c p, fun W => ?_, fun w vs hl hr => hr.cut (by omega)⟩
  rw [run_slice_l W _ _ _ _ ht .i64 _ (by omega) (by omega), hz]
  simp only [Result.andThen, sliced, Int.toNat_natCast, Nat.mul_one, Option.map_some, cutAt]
  split <;> rfl
/-- b[:h] -/
theorem slice_head {T : TypeId} (ht : Try.prog.underlying T = some (.slice (Try.prog.elem T))) (hz : ∀ w, (Go.sizeOf (Try.prog.elem T)).run Try.prog w = .ok 1 w) (a : Option Addr) (n c h : Nat) (hc : h ≤ c) (hn : a = none → c = 0) :
    ∀ W, (Instr.slice T (.slice a n c) none (some (.int .i64 (h : Int))) none).run Try.prog W = .ok (.slice a h c) W := fun W => by
  rw [run_slice_h W _ _ _ _ ht .i64 _ (by omega) (by omega), hz]
  simp only [Result.andThen, sliced, Int.toNat_natCast, Nat.sub_zero]
  split
  · rfl
  · cases a with
    | none => rfl
    | some a => simp [add_zero']
/-- b[p:h] -/
theorem slice_mid {T : TypeId} (ht : Try.prog.underlying T = some (.slice (Try.prog.elem T))) (hz : ∀ w, (Go.sizeOf (Try.prog.elem T)).run Try.prog w = .ok 1 w) (b o n c p h : Nat) (hp : p ≤ h) (hh : h ≤ c) (hc : c ≠ p) :
    ∀ W, (Instr.slice T (.slice (some ⟨b, o, none⟩) n c) (some (.int .i64 (p : Int))) (some (.int .i64 (h : Int))) none).run Try.prog W = .ok (.slice (some ⟨b, o + p, none⟩) (h - p) (c - p)) W := fun W => by
  rw [run_slice_lh W _ _ _ _ ht .i64 .i64 _ _ (by omega) (by omega) (by omega), hz]
  simp only [Result.andThen, sliced, Int.toNat_natCast, Nat.mul_one, Option.map_some, if_neg hc]
  rw [Go.WideShapes.add_plain]
theorem ht8 : Try.prog.underlying 26 = some (.slice (Try.prog.elem 26)) := by kernel_rfl
theorem hz8 : ∀ w, (Go.sizeOf (Try.prog.elem 26)).run Try.prog w = .ok 1 w := el1 _ 5 (by kernel_rfl) (by kernel_rfl) (by kernel_rfl)
theorem htR : Try.prog.underlying 121 = some (.slice (Try.prog.elem 121)) := by kernel_rfl
theorem hzR : ∀ w, (Go.sizeOf (Try.prog.elem 121)).run Try.prog w = .ok 1 w := el1 _ 26 (by kernel_rfl) (by kernel_rfl) (by kernel_rfl)
theorem htI : Try.prog.underlying 22 = some (.slice (Try.prog.elem 22)) := by kernel_rfl
theorem hzI : ∀ w, (Go.sizeOf (Try.prog.elem 22)).run Try.prog w = .ok 1 w := el1 _ 3 (by kernel_rfl) (by kernel_rfl) (by kernel_rfl)
end Go.Proofs.Ytiabdeciadfiiaa.H

/- The document's Num, Nums, Bytes. -/
namespace Go.Proofs.Ytiabdeciadfiiaa.ref
open Go.RowKit H O

/-- A row so far. -/
def Sofar (v : Int) (w : World) (b : Value) (u : Nat) (wr : World) : Prop := ∃ pre, pre ++ enc u = num v ∧ Own 5 .u8 wr w.heap.size b pre ∧ Kp [] w wr

theorem own_app {w1 wr : World} {b v1 : Value} {pre : List Int} {y : Int} {m lo n : Nat} (ho : Own 5 .u8 wr lo b pre) (hm : pre.length = m) (hlo : lo ≤ n)
    (o1 : w1.ownsRow 0 5 1 v1 (m + 1) (iv .u8 pre ++ [.int .u8 y])) (a1 : At n b.ownBlock v1.ownBlock) : Own 5 .u8 w1 lo v1 (pre ++ [y]) := by
  subst hm
  exact ⟨by simpa [iv] using o1, a1.ge hlo ho.2⟩
theorem kp_app {w wr wa w1 : World} {b : Value} {S : List Nat} (hk : Kp S w wr) (ka : Kp [] wr wa) (hb : ∀ g, b.ownBlock = some g → w.heap.size ≤ g) (k1 : Kp b.ownBlock.toList wa w1) : Kp S w w1 :=
  (hk.trans ka (by simp)).row k1 (fun x hx => .inr (hb x hx))

set_option maxHeartbeats 4000000 in
set_option maxRecDepth 100000 in
theorem num_any (v : Int) (w : World) : Calls Try.prog 53 #[.int .i64 v] w (RetOwn 5 .u8 w (num v)) := by
  have hcase : 4611686018427387904 < v ∨ (¬ 4611686018427387904 < v ∧ ¬ 0 < v) ∨ (¬ 4611686018427387904 < v ∧ 0 < v) := by omega
  obtain ⟨u, hu⟩ : ∃ u, u = cl v := ⟨_, rfl⟩
  have hB := cl_le v
  rw [← hu] at hB
  have H0 : As (Sofar v w (.slice none 0 0) u w) := ⟨[], by rw [hu]; rfl, Own.nil _ _ _ _, Kp.refl _ _⟩
  have HB := As.mk hB
  have HU := As.mk hu
  clear hu hB
  rcases hcase with h1 | ⟨h1, h2⟩ | ⟨h1, h2⟩
  all_goals
    go_enter Try.func53, Try.ntmps53
    go_wp2
    go_loopw [3, 4] (fun s b wr => ∃ u2 : Nat, s = .int .u64 (u2 : Int) ∧ As (u2 ≤ 4611686018427387904) ∧ As (Sofar v w b u2 wr)) (fun s _ _ => (intOf s).toNat)
    case atStart => exact ⟨u, by congr 1; rw [HU.out]; unfold cl; split <;> (try split) <;> omega, HB, H0⟩
    case round =>
      obtain ⟨u2, rfl, HU2, ⟨pre, hpre, ho, hk⟩⟩ := hrel
      obtain ⟨m, hm⟩ : ∃ m, pre.length = m := ⟨_, rfl⟩
      have HO := As.mk ho
      have HO1 : As (wr.ownsRow 0 5 1 u4 m (iv .u8 pre)) := ⟨by rw [← hm]; exact ho.1⟩
      have HK := As.mk hk
      have HP := As.mk hpre
      have HM := As.mk hm
      clear ho hk hpre hm
      have HBD : As (m + 1 ≤ 140737488355328) := by
        constructor
        have h2 := num_len v
        have h3 := enc_pos u2
        have h4 := HM.out
        rw [← HP.out] at h2
        simp only [List.length_append] at h2
        omega
      by_cases hge : 128 ≤ u2
      · have hor := or128' u2 HU2.out
        go_wp2_with (at_builtin; refine clone.app8_one rfl (.tmp 13) (.tmp 18) rfl u4 m (iv .u8 pre) rfl HO1.out ((u2 : Int) % 128 + 128) rfl HBD.out ?_; intro v1 w1 o1 k1 a1; have O1 := As.mk (own_app HO.out HM.out (Nat.le_succ_of_le HK.out.size) o1 a1); have K1 := As.mk (kp_app HK.out ((Kp.refl [] wr).alloc _) HO.out.2 k1); clear o1 k1 a1)
        go_roundw
        case rel => exact ⟨u2 / 128, by go_num, ⟨by have := HU2.out; omega⟩, ⟨pre ++ [(u2 : Int) % 128 + 128], by rw [← HP.out, enc_hi (u := u2) (by omega), List.append_assoc, List.singleton_append], O1.out, K1.out⟩⟩
        case measure => simp [intOf]; omega
      · go_wp2_with (at_builtin; refine clone.app8_one rfl (.tmp 22) (.tmp 25) rfl u4 m (iv .u8 pre) rfl HO1.out (u2 : Int) rfl HBD.out ?_; intro v1 w1 o1 k1 a1; have O1 := As.mk (own_app HO.out HM.out (Nat.le_succ_of_le HK.out.size) o1 a1); have K1 := As.mk (kp_app HK.out ((Kp.refl [] wr).alloc _) HO.out.2 k1); clear o1 k1 a1)
        go_ret
        exact ⟨v1, rfl, by have h9 := O1.out; rw [← HP.out, enc_lo (u := u2) (by omega)]; exact h9, K1.out⟩

end Go.Proofs.Ytiabdeciadfiiaa.ref

/- The document's Nums and Bytes. -/
namespace Go.Proofs.Ytiabdeciadfiiaa.ref
open Go.RowKit H O

theorem own_apps {w1 wr : World} {b v1 : Value} {pre ys : List Int} {m lo n k : Nat} (ho : Own 5 .u8 wr lo b pre) (hm : pre.length = m) (hk : ys.length = k) (hlo : lo ≤ n)
    (o1 : w1.ownsRow 0 5 1 v1 (m + k) (iv .u8 pre ++ iv .u8 ys)) (a1 : At n b.ownBlock v1.ownBlock) : Own 5 .u8 w1 lo v1 (pre ++ ys) := by
  subst hm hk
  exact ⟨by simpa [iv] using o1, a1.ge hlo ho.2⟩

set_option maxHeartbeats 4000000 in
theorem nums_any (A : Option Addr) (n c : Nat) (vs : List Int) (w : World) (hn : vs.length = n) (h0 : Rd w A (iv .i64 vs)) (hb : n ≤ 7036874417766) :
    Calls Try.prog 56 #[.slice A n c] w (RetOwn 5 .u8 w (nums vs)) := by
  subst hn
  have HR := As.mk h0
  clear h0
  go_enter Try.func56, Try.ntmps56
  go_wp2
  go_loopw [3, 4] (fun b i wr => ∃ k : Nat, i = .int .i64 (k : Int) ∧ k ≤ vs.length ∧ As (Own 5 .u8 wr w.heap.size b (nums (vs.take k)) ∧ Kp [] w wr)) (fun _ i _ => vs.length - (intOf i).toNat)
  case atStart => exact ⟨0, rfl, by omega, ⟨Own.nil _ _ _ _, Kp.refl _ _⟩⟩
  case round =>
    obtain ⟨k, rfl, hk, HH⟩ := hrel
    have HO := As.mk HH.out.1
    have HK := As.mk HH.out.2
    clear HH
    by_cases hlt : k < vs.length
    · obtain ⟨a, rfl, d0⟩ := (show Rd wr A (iv .i64 vs) from HK.out.rd_new HR.out (by simp)).int k hlt
      obtain ⟨x, hx⟩ : ∃ x, x = vs[k] := ⟨_, rfl⟩
      rw [← hx] at d0
      obtain ⟨m, hm⟩ : ∃ m, (nums (vs.take k)).length = m := ⟨_, rfl⟩
      have HX := As.mk hx
      have HM := As.mk hm
      have HBD : As (m + (num x).length ≤ 140737488355328) := by
        constructor
        have h1 := nums_len (vs.take k)
        have h2 := num_len x
        rw [List.length_take] at h1
        omega
      clear hx hm
      go_wp2_with (first
        | (go_at_call 53; refine (num_any x _).mono ?_; rintro e w1 ⟨v, rfl, ho1, hk1⟩; obtain ⟨A1, c1, rfl, hl1, hm1, hr1, hn1⟩ := own_rd ho1.1; have HO1 := As.mk (HO.out.kp hk1 (by simp)); have HOM : As (w1.ownsRow 0 5 1 u3 m (iv .u8 (nums (vs.take k)))) := ⟨by rw [← HM.out]; exact HO1.out.1⟩; have HK1 := As.mk hk1; have HR1 := As.mk hr1; have HN1 := As.mk hn1; clear ho1 hk1 hl1 hm1 hr1 hn1)
        | (at_builtin; refine clone.app8 rfl (.tmp 11) (.tmp 16) rfl u3 m (iv .u8 (nums (vs.take k))) rfl HOM.out A1 (num x).length c1 (iv .u8 (num x)) rfl (iv_len _ _) HR1.out HN1.out (iv_one _ _) HBD.out ?_; intro v2 w2 o2 k2 a2; have HO2 := As.mk (own_apps HO1.out HM.out rfl (Nat.le_trans HK.out.size HK1.out.size) o2 a2); have HK2 := As.mk ((HK.out.trans HK1.out (by simp)).row k2 (fun y hy => .inr (HO1.out.2 y hy))); clear o2 k2 a2))
      go_roundw
      case rel => exact ⟨k + 1, by go_num, by omega, ⟨by rw [nums_step vs k hlt, ← HX.out]; exact HO2.out, HK2.out⟩⟩
      case measure => simp [intOf]; omega
    · go_wp2
      go_ret
      have e : vs.take k = vs := List.take_of_length_le (by omega)
      rw [e] at HO
      exact ⟨_, rfl, HO.out, HK.out⟩

end Go.Proofs.Ytiabdeciadfiiaa.ref

/- Rows whose bytes are cut short: what a Reader takes of them. And: what a mask leaves, an append of a number. -/
namespace Go.Proofs.Ytiabdeciadfiiaa.O
open Go.RowKit H

theorem decF_short : ∀ (v i u m : Nat) (r : List Int), m < (enc v).length → decF i u ((enc v ++ r).take m) = none := by
  intro v
  induction v using Nat.strongRecOn with
  | _ v ih =>
    intro i u m r hm
    cases m with
    | zero => rfl
    | succ m =>
      by_cases h : v < 128
      · rw [enc_lo h] at hm
        simp at hm
      · rw [enc_hi h] at hm ⊢
        rw [List.cons_append, List.take_succ_cons]
        simp only [decF]
        split
        · rfl
        · rw [if_neg (by omega)]
          exact ih (v / 128) (by omega) _ _ m r (by simpa using hm)
theorem dec_short (n : Int) (m : Nat) (r : List Int) (h : m < (num n).length) : dec ((num n ++ r).take m) = none := decF_short _ _ _ _ _ h
theorem stBytes_none : stBytes none = ([], none) := rfl
theorem stBytes_cut (x r : List Int) (m : Nat) (hx : x.length ≤ 4611686018427387904) :
    stBytes (some ((row x ++ r).take m)) = if (row x).length ≤ m then (x, some (r.take (m - (row x).length))) else ([], none) := by
  by_cases h : (row x).length ≤ m
  · rw [if_pos h, List.take_append, List.take_of_length_le h]
    exact stBytes_row x _ hx
  · rw [if_neg h]
    unfold row at h ⊢
    rw [List.append_assoc]
    by_cases h2 : m < (num x.length).length
    · simp only [stBytes, stNum, dec_short _ _ _ h2]
      rfl
    · have h3 : (num x.length ++ (x ++ r)).take m = num x.length ++ (x ++ r).take (m - (num x.length).length) := by
        rw [List.take_append, List.take_of_length_le (by omega)]
      rw [List.length_append] at h
      have h4 : ((x ++ r).take (m - (num x.length).length)).length < x.length := by rw [List.length_take]; omega
      simp only [stBytes]
      rw [h3, stNum_num]
      simp only [stRaw]
      have h5 := cl_of (n := (x.length : Int)) (by omega) (by omega)
      rw [if_pos (by omega)]

/-- What is left of the rows behind the k-th, of m bytes in all. -/
def cutSt (l : List (List Int)) (m k : Nat) : Option (List Int) :=
  if (rows (l.take k)).length ≤ m then some ((rows (l.drop k)).take (m - (rows (l.take k)).length)) else none
theorem cutSt_zero (l : List (List Int)) (m : Nat) : cutSt l m 0 = some ((rows l).take m) := by simp [cutSt, rows]
theorem cutSt_step (l : List (List Int)) (m k : Nat) (h : k < l.length) (hx : l[k].length ≤ 4611686018427387904) :
    stBytes (cutSt l m k) = if (rows (l.take (k + 1))).length ≤ m then (l[k], cutSt l m (k + 1)) else ([], cutSt l m (k + 1)) := by
  have e := congrArg List.length (rows_step l k h)
  rw [List.length_append] at e
  unfold cutSt
  by_cases h1 : (rows (l.take k)).length ≤ m
  · rw [if_pos h1, List.drop_eq_getElem_cons h, rows_cons, stBytes_cut _ _ _ hx]
    by_cases h2 : (rows (l.take (k + 1))).length ≤ m
    · rw [if_pos h2, if_pos h2, if_pos (by omega), e]
      congr 3
      omega
    · rw [if_neg h2, if_neg h2, if_neg (by omega)]
  · rw [if_neg h1, if_neg (by omega), if_neg (by omega)]
    rfl
theorem cutSt_end (l : List (List Int)) (m : Nat) (h : m < (rows l).length) : cutSt l m l.length = none := by
  unfold cutSt
  rw [List.take_length, if_neg (by omega)]
theorem cutSt_left (l : List (List Int)) (m k : Nat) : (left (cutSt l m k)).length ≤ m := by
  unfold cutSt
  split
  · simp only [left, Option.getD_some, List.length_take]; omega
  · simp [left]
/-- a mask's bits are below it -/
theorem mask30 (a : Int) : ∃ q : Nat, bits .and .i64 a 1073741823 = (q : Int) ∧ q < 1073741824 := by
  have h1 : (BitVec.ofInt 64 (1073741823 : Int)).toNat = 1073741823 := by decide
  have h : (BitVec.ofInt 64 a &&& BitVec.ofInt 64 1073741823).toNat ≤ 1073741823 := by
    rw [BitVec.toNat_and, h1]
    exact Nat.and_le_right
  refine ⟨(BitVec.ofInt 64 a &&& BitVec.ofInt 64 1073741823).toNat, ?_, by omega⟩
  show IntKind.i64.wrap (((BitVec.ofInt 64 a &&& BitVec.ofInt 64 1073741823).toNat : Nat) : Int) = _
  rw [IntKind.wrap_i64]
  omega

theorem info_i64 : (Try.prog.info? 3).map (fun i => (i.zero, i.size, i.bytes)) = some (some (.int .i64 0), 1, 8) := by kernel_rfl
/-- append of one number onto a row of the call's own -/
theorem app64_one {w : World} {ops : Array Oper} {rest : List Oper} {o : Oper} {a : Act} {Q : Exit → Act → World → Prop} (hgd : o.guard = none) (s x : Operand)
    (ho : o.op = .call { callee := .builtin .append, args := #[s, x], argTypes := #[22, 22] })
    (v : Value) (n : Nat) (xs : List Value) (hs : a.eval s = v) (hown : w.ownsRow 0 3 1 v n xs) (y : Int)
    (hx : a.eval x = .slice (some ⟨w.heap.size, 0, none⟩) 1 1) (hm : n + 1 ≤ 17592186044416)
    (h : ∀ v' w', w'.ownsRow 0 3 1 v' (n + 1) (xs ++ [.int .i64 y]) → Kp v.ownBlock.toList (w.alloc (.cells #[.int .i64 y] 3)) w' → At (w.heap.size + 1) v.ownBlock v'.ownBlock →
      wpList Try.prog ops Q rest (a.put o.dst v') w') : wpList Try.prog ops Q (o :: rest) a (w.alloc (.cells #[.int .i64 y] 3)) :=
  wpList_app hgd s x 22 ho 3 (.int .i64 0) 1 8 Try.underlying22 info_i64 rfl (by decide) v n xs hs (hown.alloc _) (some ⟨w.heap.size, 0, none⟩) 1 1 [.int .i64 y] hx rfl (rd_one _ _ _) (by simp) (by simp [Value.oneCell'])
    (by omega) (by omega) (fun v' w' h1 h2 h3 _ => h v' w' h1 h2 (by simpa using h3))
end Go.Proofs.Ytiabdeciadfiiaa.O

/- op.EncodeReply, haystackref13.EncodeReply. -/
namespace Go.Proofs.Ytiabdeciadfiiaa.opk
open Go.RowKit H O haystacklaw13

theorem app64 {w : World} {ops : Array Oper} {rest : List Oper} {o : Oper} {a : Act} {Q : Exit → Act → World → Prop} (hgd : o.guard = none) (s x : Operand)
    (ho : o.op = .call { callee := .builtin .append, args := #[s, x], argTypes := #[22, 22] })
    (v : Value) (n : Nat) (xs : List Value) (hs : a.eval s = v) (hown : w.ownsRow 0 3 1 v n xs)
    (A : Option Addr) (m c : Nat) (news : List Value) (hx : a.eval x = .slice A m c) (hl : news.length = m) (hrd : Rd w A news) (hnil : A = none → c = 0) (h1 : ∀ u ∈ news, u.oneCell' = true)
    (hm : n + m ≤ 17592186044416)
    (h : ∀ v' w', w'.ownsRow 0 3 1 v' (n + m) (xs ++ news) → Kp v.ownBlock.toList w w' → At w.heap.size v.ownBlock v'.ownBlock →
      wpList Try.prog ops Q rest (a.put o.dst v') w') : wpList Try.prog ops Q (o :: rest) a w :=
  wpList_app hgd s x 22 ho 3 (.int .i64 0) 1 8 Try.underlying22 info_i64 rfl (by decide) v n xs hs hown A m c news hx (by rw [hl, Nat.mul_one]) hrd hnil h1 (by omega) (by omega)
    (fun v' w' h1 h2 h3 _ => h v' w' h1 h2 h3)

theorem kp_lit {w w1 : World} {o : Obj} {n c : Nat} (k : Kp (Value.slice (some ⟨w.heap.size, 0, none⟩) n c).ownBlock.toList (w.alloc o) w1) : Kp [] w w1 :=
  ((Kp.refl [] w).alloc o).trans k (by simp [Value.ownBlock])
/-- a reply's bytes -/
def repBytes (er : Int) (vs : List Int) : List Int := nums [er, ((min vs.length 8 : Nat) : Int)] ++ nums (vs.take (min vs.length 8))
theorem repBytes_len (er : Int) (vs : List Int) : (repBytes er vs).length ≤ 100 := by
  unfold repBytes
  have h1 := nums_len [er, ((min vs.length 8 : Nat) : Int)]
  have h2 := nums_len (vs.take (min vs.length 8))
  rw [List.length_append]
  simp only [List.length_cons, List.length_nil, List.length_take] at h1 h2
  omega

/-- A reply's block. -/
def RepAt (w : World) (b : Nat) (er : Int) (v : Value) : Prop := w.heap[b]? = some (.cells #[.int .i64 er, v] 86)
theorem RepAt.cells {w : World} {b : Nat} {er : Int} {v : Value} (h : RepAt w b er v) : w.cell? ⟨b, 0, none⟩ = some (.int .i64 er) ∧ w.cell? ⟨b, 1, none⟩ = some v := ⟨blk_cell h 0 rfl, blk_cell h 1 rfl⟩
theorem RepAt.new (w : World) (er : Int) (v : Value) : RepAt (w.alloc (.cells #[.int .i64 er, v] 86)) w.heap.size er v := heap_alloc_new w _
theorem RepAt.kp {S : List Nat} {w w1 : World} {b : Nat} {er : Int} {v : Value} (h : RepAt w b er v) (hk : Kp S w w1) (hb : b ∉ S) : RepAt w1 b er v := hk.blk h hb
theorem RepAt.free {w : World} {b : Nat} {er : Int} {v : Value} (h : RepAt w b er v) (j : Nat) : w.frozen? ⟨b, j, none⟩ = false := blk_free h j

/-- two numbers on a new Writer -/
theorem nums_two (w : World) (x y : Int) : Calls Try.prog 39 #[.pointer (some ⟨w.heap.size, 0, none⟩), .slice (some ⟨w.heap.size + 1, 0, none⟩) 2 2]
    ((w.alloc (.cells #[.slice none 0 0] 79)).alloc (.cells #[.int .i64 x, .int .i64 y] 3))
    (fun e w' => e = .returned (.tuple #[]) ∧ ∃ g, writer.Wr w' w.heap.size g (nums [x, y]) ∧ (∀ z, g = some z → w.heap.size < z) ∧ Kp [] w w' ∧ w.heap.size < w'.heap.size) := by
  have h := writer.nums_any w.heap.size none [] (some ⟨w.heap.size + 1, 0, none⟩) 2 2 [x, y] ((w.alloc (.cells #[.slice none 0 0] 79)).alloc (.cells #[.int .i64 x, .int .i64 y] 3))
    ((writer.Wr.new w).kp ((Kp.refl [] _).alloc _) (by simp) (by simp)) rfl (by
      have := RdS.lit (S := [w.heap.size]) (w.alloc (.cells #[.slice none 0 0] 79)) [.int .i64 x, .int .i64 y] 3 (by simp)
      simpa [iv] using this) (by decide)
  refine h.mono ?_
  rintro e w' ⟨rfl, g, W1, A1, K1⟩
  refine ⟨rfl, g, by simpa using W1, ?_, (((Kp.refl [] w).alloc _).alloc _).trans K1 (by simp), ?_⟩
  · intro x hx
    rcases A1 with h | ⟨j, h, hj⟩
    · rw [h] at hx; cases hx
    · rw [h] at hx; have := Option.some.inj hx; simp at hj; omega
  · have := K1.size
    simp at this
    omega
/-- more numbers on the Writer; and out -/
theorem nums_out {w w3 : World} {b : Nat} {g : Option Nat} {ys : List Int} (A : Option Addr) (n c : Nat) (vs : List Int) (hn : vs.length = n) (hr : Rd w A (iv .i64 vs))
    (W3 : writer.Wr w3 b g ys) (hb : w.heap.size ≤ b) (hg : ∀ x, g = some x → w.heap.size ≤ x) (K3 : Kp [] w w3) (hn4 : n ≤ 1000000) (hy : ys.length ≤ 1000000) :
    Calls Try.prog 39 #[.pointer (some ⟨b, 0, none⟩), .slice A n c] w3
      (fun e w' => e = .returned (.tuple #[]) ∧ (Calls Try.prog 41 #[.pointer (some ⟨b, 0, none⟩)] w' fun e w'' => ∃ v, e = .returned v ∧ Own 5 .u8 w'' w.heap.size v (ys ++ nums vs) ∧ Kp [] w w'')) := by
  have hS : ∀ x ∈ b :: g.toList, w.heap.size ≤ x := by
    intro x hx
    rcases List.mem_cons.1 hx with rfl | hx
    · exact hb
    · exact hg x (by simpa using hx)
  have h := writer.nums_any b g ys A n c vs w3 W3 hn (RdS.new hr K3 hS) (by omega)
  refine h.mono ?_
  rintro e w5 ⟨rfl, g5, W5, A5, K5⟩
  refine ⟨rfl, ?_⟩
  have hl := nums_len vs
  have K5' : Kp [] w w5 := K3.trans K5 (fun x hx => .inr (hS x hx))
  refine (writer.out_any b g5 _ w5 W5 (by rw [List.length_append]; omega)).mono ?_
  rintro e w6 ⟨v, rfl, O6, K6⟩
  exact ⟨v, rfl, O6.lower K5'.size, K5'.trans K6 (by simp)⟩

set_option maxHeartbeats 4000000 in
theorem encRep_any (er : Int) (A : Option Addr) (n c : Nat) (vs : List Int) (w : World) (hn : vs.length = n) (hr : Rd w A (iv .i64 vs)) (hc : n ≤ c) (hnil : A = none → c = 0) (hm : n ≤ 1000000) :
    Calls Try.prog 43 #[.agg #[.int .i64 er, .slice A n c]] w (RetOwn 5 .u8 w (repBytes er vs)) := by
  obtain ⟨k, hk⟩ : ∃ k, k = min n 8 := ⟨_, rfl⟩
  have hk8 : k ≤ n ∧ k ≤ 8 := by omega
  have hmin : ∀ w, (Builtin.min_ #[3, 3] 3 #[.int .i64 (n : Int), .int .i64 8]).run Try.prog w = .ok (.int .i64 (k : Int)) w := fun w => by
    rw [writer.min_two]
    congr 2
    split <;> omega
  have hsl := slice_head htI hzI A n c k (by omega) hnil
  have HV := As.mk (show Rd w A (iv .i64 (vs.take k)) from by have h := hr.take k; rwa [iv_take] at h)
  have HLV : As ((vs.take k).length = k) := ⟨by rw [List.length_take]; omega⟩
  have HFIN : As (nums [er, (k : Int)] ++ nums (vs.take k) = repBytes er vs) := ⟨by rw [repBytes, hn, ← hk]⟩
  have HB := As.mk (RepAt.new w er (.slice A n c))
  obtain ⟨d0, d1⟩ := HB.out.cells
  have hnu := nums_two (w.alloc (.cells #[.int .i64 er, .slice A n c] 86)) er (k : Int)
  rw [World.size_alloc] at hnu
  have HNU := As.mk hnu
  clear hr hn hnil hk d0 d1 hnu
  go_enter Try.func43, Try.ntmps43
  go_wp2_with (first
    | (go_at_call 39; refine HNV.out.mono ?_; rintro e w4 ⟨rfl, ho⟩; have HO := As.mk ho; clear ho HNV)
    | (go_at_call 39; refine HNU.out.mono ?_; rintro e w3 ⟨rfl, g3, W3, G3, K3, s3⟩; have HNV := As.mk (nums_out (w := w) A k c (vs.take k) HLV.out HV.out W3 (by omega) (fun x hx => by have := G3 x hx; omega) (((Kp.refl [] w).alloc _).trans K3 (by simp)) (by omega) (by have := nums_len [er, (k : Int)]; simp only [List.length_cons, List.length_nil] at this; omega)); clear W3 G3 K3 s3 HNU)
    | (go_at_call 41; refine HO.out.mono ?_; rintro e w5 ⟨v, rfl, o5, k5⟩; have HO5 := As.mk o5; have HK5 := As.mk k5; clear o5 k5 HO))
  go_ret
  rw [HFIN.out] at HO5
  exact ⟨v, rfl, HO5.out, HK5.out⟩

set_option maxHeartbeats 4000000 in
theorem refRep_any (er : Int) (A : Option Addr) (n c : Nat) (vs : List Int) (w : World) (hn : vs.length = n) (hr : Rd w A (iv .i64 vs)) (hc : n ≤ c) (hnil : A = none → c = 0) (hm : n ≤ 1000000) :
    Calls Try.prog 59 #[.int .i64 er, .slice A n c] w (RetOwn 5 .u8 w (repBytes er vs)) := by
  obtain ⟨k, hk⟩ : ∃ k, k = min n 8 := ⟨_, rfl⟩
  have hk8 : k ≤ n ∧ k ≤ 8 := by omega
  have HV := As.mk (show Rd w A (iv .i64 (vs.take k)) from by have h := hr.take k; rwa [iv_take] at h)
  have HLV : As ((vs.take k).length = k) := ⟨by rw [List.length_take]; omega⟩
  obtain ⟨us, hus⟩ : ∃ us, us = [er, (k : Int)] ++ vs.take k := ⟨_, rfl⟩
  obtain ⟨T, hT⟩ : ∃ T, T = 2 + k := ⟨_, rfl⟩
  have HFIN : As (nums us = repBytes er vs) := ⟨by rw [repBytes, hn, ← hk, hus, nums_app]⟩
  have HUS := As.mk hus
  have HT := As.mk hT
  have hT9 : T ≤ 10 := by omega
  have HNIL := As.mk hnil
  have HLU : As (us.length = T) := ⟨by rw [hus, List.length_append, HLV.out, hT]; rfl⟩
  have HNU : As (∀ A3 c3 wX, Rd wX A3 (iv .i64 us) → Calls Try.prog 56 #[.slice A3 T c3] wX (RetOwn 5 .u8 wX (nums us))) := ⟨fun A3 c3 wX r3 => ref.nums_any A3 T c3 us wX HLU.out r3 (by omega)⟩
  by_cases h8 : 8 < n
  · obtain rfl : k = 8 := by omega
    have hsl : ∀ W, (Instr.slice 22 (.slice A n c) none (some (.int .i64 8)) none).run Try.prog W = .ok (.slice A 8 c) W := slice_head htI hzI A n c 8 (by omega) hnil
    clear hr hn hnil hk hus hT
    go_enter Try.func59, Try.ntmps59
    go_wp2_with (first
      | (at_builtin; refine app64 rfl (.tmp 13) (.tmp 14) rfl (.slice (some ⟨w.heap.size, 0, none⟩) 2 2) 2 [.int .i64 er, .int .i64 8] rfl (own_new w [.int .i64 er, .int .i64 8] _ (show 2 ≤ maxLen by decide)) A 8 c (iv .i64 (vs.take 8)) rfl (by rw [iv_len, HLV.out]) (((Kp.refl [] w).alloc _).rd_new HV.out (by simp)) HNIL.out (iv_one _ _) (by decide) ?_; intro v2 w2 o2 k2 a2; have o2' : w2.ownsRow 0 3 1 v2 T (iv .i64 us) := (by rw [HUS.out, HT.out, iv_app]; exact o2); obtain ⟨A2, c2, rfl, _, _, r2, _⟩ := own_rd o2'; have HK2 : As (Kp [] w w2) := ⟨kp_lit k2⟩; have HN2 := As.mk (HNU.out A2 c2 w2 r2); clear o2 k2 a2 o2' r2)
      | (go_at_call 56; refine HN2.out.mono ?_; rintro e w3 ⟨v3, rfl, o3, k3⟩; have HO3 := As.mk (o3.lower HK2.out.size); have HK3 : As (Kp [] w w3) := ⟨HK2.out.trans k3 (by simp)⟩; clear o3 k3))
    go_ret
    rw [HFIN.out] at HO3
    exact ⟨v3, rfl, HO3.out, HK3.out⟩
  · obtain rfl : k = n := by omega
    clear hr hn hnil hk hus hT
    go_enter Try.func59, Try.ntmps59
    go_wp2_with (first
      | (at_builtin; refine app64 rfl (.tmp 13) (.tmp 14) rfl (.slice (some ⟨w.heap.size, 0, none⟩) 2 2) 2 [.int .i64 er, .int .i64 (k : Int)] rfl (own_new w [.int .i64 er, .int .i64 (k : Int)] _ (show 2 ≤ maxLen by decide)) A k c (iv .i64 (vs.take k)) rfl (by rw [iv_len, HLV.out]) (((Kp.refl [] w).alloc _).rd_new HV.out (by simp)) HNIL.out (iv_one _ _) (by omega) ?_; intro v2 w2 o2 k2 a2; have o2' : w2.ownsRow 0 3 1 v2 T (iv .i64 us) := (by rw [HUS.out, HT.out, iv_app]; exact o2); obtain ⟨A2, c2, rfl, _, _, r2, _⟩ := own_rd o2'; have HK2 : As (Kp [] w w2) := ⟨kp_lit k2⟩; have HN2 := As.mk (HNU.out A2 c2 w2 r2); clear o2 k2 a2 o2' r2)
      | (go_at_call 56; refine HN2.out.mono ?_; rintro e w3 ⟨v3, rfl, o3, k3⟩; have HO3 := As.mk (o3.lower HK2.out.size); have HK3 : As (Kp [] w w3) := ⟨HK2.out.trans k3 (by simp)⟩; clear o3 k3))
    go_ret
    rw [HFIN.out] at HO3
    exact ⟨v3, rfl, HO3.out, HK3.out⟩
end Go.Proofs.Ytiabdeciadfiiaa.opk

/- op.DecodeReply. -/
namespace Go.Proofs.Ytiabdeciadfiiaa.opk
open Go.RowKit H O haystacklaw13

/-- append of one number, at a step of a region that draws its order -/
theorem step64_one {w : World} {ops : Array Oper} {o : Oper} {a : Act} {K : Act → World → Prop} {Q : Exit → Act → World → Prop} {E : Prop} (hgd : o.guard = none) (s x : Operand)
    (ho : o.op = .call { callee := .builtin .append, args := #[s, x], argTypes := #[22, 22] })
    (v : Value) (n : Nat) (xs : List Value) (hs : a.eval s = v) (hown : w.ownsRow 0 3 1 v n xs) (g : Nat) (y : Int)
    (hx : a.eval x = .slice (some ⟨g, 0, none⟩) 1 1) (hc : w.cell? ⟨g, 0, none⟩ = some (.int .i64 y)) (hm : n + 1 ≤ 1000000)
    (h : ∀ v' w', w'.ownsRow 0 3 1 v' (n + 1) (xs ++ [.int .i64 y]) → Kp v.ownBlock.toList w w' → At w.heap.size v.ownBlock v'.ownBlock → K (a.put o.dst v') w') :
    if Region.wanted o (yielded ops a.tmps) = true then Oper.wp Try.prog o a w K Q else E := by
  have hw : Region.wanted o (yielded ops a.tmps) = true := by simp [Region.wanted, hgd]
  rw [if_pos hw]
  have hrd : Rd w (some ⟨g, 0, none⟩) [.int .i64 y] := by
    intro j u hj
    match j, hj with
    | 0, hj => simp at hj; subst hj; exact ⟨_, rfl, by rw [add_zero']; exact hc⟩
  obtain ⟨v', w', hr, h2, h3, h4, h5⟩ := run_app (P := Try.prog) w 22 o.type 3 (.int .i64 0) 1 8 Try.underlying22 info_i64 rfl (by decide) v n xs hown (some ⟨g, 0, none⟩) 1 1 [.int .i64 y] rfl hrd (by simp) (by simp [Value.oneCell']) (by omega) (by omega)
  unfold Oper.wp execOp
  simp only [ho, resolve, invoke, builtin, Sem.run_bind, Sem.run_pure, Result.andThen_ok, List.map_toArray, List.map_cons, List.map_nil, hs, hx, hr]
  exact h v' w' h2 h3 h4

/-- what bytes are as a reply -/
def dRep (xs : List Int) : Int × List Int × Int :=
  match stNum (some xs) with
  | (n0, s1) => match stNum s1 with
    | (n1, s2) => if n0 ≤ 100 ∧ n1 ≤ 8 ∧ (stNums n1 s2).2 = some [] then ((n0 : Int), (stNums n1 s2).1, 0) else (0, [], 3)
theorem stNums_none (k : Nat) : (stNums k none).2 = none := by
  induction k with
  | zero => rfl
  | succ k ih => exact ih
theorem stNums_stay {s : Option (List Int)} {k j : Nat} (h : (stNums k s).2 = none) (hj : k ≤ j) : (stNums j s).2 = none := by
  induction j with
  | zero => obtain rfl : k = 0 := by omega
            exact h
  | succ j ih =>
    by_cases e : k = j + 1
    · rw [← e]; exact h
    · rw [reader.stNums_snoc, ih (by omega)]
      rfl
/-- the Reader behind the two numbers, or bad -/
def sRep (n0 n1 : Nat) (s2 : Option (List Int)) : Option (List Int) := if n0 ≤ 100 ∧ n1 ≤ 8 then s2 else none
theorem dRep_eq {xs : List Int} {n0 n1 : Nat} {s1 s2 : Option (List Int)} (h0 : stNum (some xs) = (n0, s1)) (h1 : stNum s1 = (n1, s2)) :
    dRep xs = if (stNums n1 (sRep n0 n1 s2)).2 = some [] then ((n0 : Int), (stNums n1 (sRep n0 n1 s2)).1, 0) else (0, [], 3) := by
  simp only [dRep, h0, h1]
  generalize hs' : sRep n0 n1 s2 = s'
  by_cases h : n0 ≤ 100 ∧ n1 ≤ 8
  · have e : s' = s2 := by rw [← hs', sRep, if_pos h]
    subst e
    by_cases h2 : (stNums n1 s').2 = some []
    · rw [if_pos h2, if_pos ⟨h.1, h.2, h2⟩]
    · rw [if_neg h2, if_neg (fun h3 => h2 h3.2.2)]
  · have e : s' = none := by rw [← hs', sRep, if_neg h]
    subst e
    rw [if_neg (fun h3 => h ⟨h3.1, h3.2.1⟩), if_neg (by rw [stNums_none]; simp)]

/-- Nums into two new numbers -/
theorem rep_nums {w : World} {b : Nat} {g : Option Nat} {s s1 s2 : Option (List Int)} {n0 n1 : Nat} (hR : reader.Rdr w b g s) (hg : ∀ x, g = some x → x < w.heap.size) (hb : (left s).length ≤ 140737488351232) (h0 : stNum s = (n0, s1)) (h1 : stNum s1 = (n1, s2)) :
    Calls Try.prog 69 #[.pointer (some ⟨b, 0, none⟩), .slice (some ⟨w.heap.size + 1 + 1, 0, none⟩) 2 2]
      (((w.alloc (.cells #[.int .i64 0] 3)).alloc (.cells #[.int .i64 0] 3)).alloc (.cells #[.pointer (some ⟨w.heap.size, 0, none⟩), .pointer (some ⟨w.heap.size + 1, 0, none⟩)] 106))
      fun e w' => e = .returned (.tuple #[]) ∧ (∃ g', reader.Rdr w' b g' s2 ∧ (g' = g ∨ g' = none)) ∧ w'.cell? ⟨w.heap.size, 0, none⟩ = some (.int .i64 n0) ∧ w'.cell? ⟨w.heap.size + 1, 0, none⟩ = some (.int .i64 n1) ∧ Kp [b] w w' ∧ w.heap.size + 1 < w'.heap.size := by
  obtain ⟨W1, hW1⟩ : ∃ W1, W1 = (w.alloc (.cells #[.int .i64 0] 3)).alloc (.cells #[.int .i64 0] 3) := ⟨_, rfl⟩
  have hs1 : W1.heap.size = w.heap.size + 1 + 1 := by rw [hW1]; simp
  have kW1 : Kp [] w W1 := by rw [hW1]; exact ((Kp.refl [] w).alloc _).alloc _
  have b0 : W1.heap[w.heap.size]? = some (.cells #[.int .i64 0] 3) := by rw [hW1]; exact heap_alloc2_old w _ _
  have b1 : W1.heap[w.heap.size + 1]? = some (.cells #[.int .i64 0] 3) := by rw [hW1]; exact heap_alloc2_new w _ _
  obtain ⟨W, hW⟩ : ∃ W, W = W1.alloc (.cells #[.pointer (some ⟨w.heap.size, 0, none⟩), .pointer (some ⟨w.heap.size + 1, 0, none⟩)] 106) := ⟨_, rfl⟩
  have kW : Kp [] W1 W := by rw [hW]; exact (Kp.refl [] W1).alloc _
  have B0 := kW.blk b0 (by simp)
  have B1 := kW.blk b1 (by simp)
  have hlb := hR.lt
  have hr : Rd W (some ⟨w.heap.size + 1 + 1, 0, none⟩) ([some ⟨w.heap.size, 0, none⟩, some ⟨w.heap.size + 1, 0, none⟩].map Value.pointer) := by
    have := rd_new W1 [.pointer (some ⟨w.heap.size, 0, none⟩), .pointer (some ⟨w.heap.size + 1, 0, none⟩)] 106
    rw [hs1] at this
    rw [hW]
    exact this
  rw [← hW1, ← hW]
  refine (reader.nums_any b g s (some ⟨w.heap.size + 1 + 1, 0, none⟩) 2 2 [some ⟨w.heap.size, 0, none⟩, some ⟨w.heap.size + 1, 0, none⟩] W (hR.kp (kW1.trans kW (by simp)) (by simp) (by simp)) hb rfl (by decide) hr ?_ ?_).mono ?_
  · intro a ha
    cases ha
    refine ⟨by show w.heap.size + 1 + 1 ≠ b; omega, fun p hp q hq => ?_⟩
    simp only [List.mem_cons, List.not_mem_nil, or_false] at hp
    rcases hp with rfl | rfl <;> cases hq
    · show w.heap.size ≠ w.heap.size + 1 + 1; omega
    · show w.heap.size + 1 ≠ w.heap.size + 1 + 1; omega
  · intro p hp q hq
    simp only [List.mem_cons, List.not_mem_nil, or_false] at hp
    rcases hp with rfl | rfl <;> cases hq
    · exact ⟨by show w.heap.size ≠ b; omega, fun h => by have h9 : w.heap.size < w.heap.size := hg _ h; omega, ⟨_, blk_cell B0 0 rfl⟩, blk_free B0 0⟩
    · exact ⟨by show w.heap.size + 1 ≠ b; omega, fun h => by have h9 : w.heap.size + 1 < w.heap.size := hg _ h; omega, ⟨_, blk_cell B1 0 rfl⟩, blk_free B1 0⟩
  · rintro e w' ⟨rfl, ⟨g', hR', hg'⟩, hos, htp, hout, hsz, hbl⟩
    have e1 : (stNums 2 s).1 = [(n0 : Int), (n1 : Int)] := by simp only [stNums, h0, h1]
    have e2 : (stNums 2 s).2 = s2 := by simp only [stNums, h0, h1]
    have hlen : [some (⟨w.heap.size, 0, none⟩ : Addr), some ⟨w.heap.size + 1, 0, none⟩].length = 2 := rfl
    rw [hlen] at hR' hbl
    rw [e1] at hbl
    rw [e2] at hR'
    have hsW := kW.size
    have kk := kW1.trans kW (by simp)
    have q0 : w'.heap[w.heap.size]? = some (.cells #[.int .i64 n0] 3) := by
      rw [hbl w.heap.size (by omega) (by omega)]
      show ((W.setCell ⟨w.heap.size, 0, none⟩ (.int .i64 n0)).setCell ⟨w.heap.size + 1, 0, none⟩ (.int .i64 n1)).heap[w.heap.size]? = _
      rw [heap_setCell_other _ _ _ _ (by show w.heap.size ≠ w.heap.size + 1; omega)]
      exact heap_setCell_same W w.heap.size 0 _ _ (.int .i64 n0) B0
    have q1 : w'.heap[w.heap.size + 1]? = some (.cells #[.int .i64 n1] 3) := by
      rw [hbl (w.heap.size + 1) (by omega) (by omega)]
      show ((W.setCell ⟨w.heap.size, 0, none⟩ (.int .i64 n0)).setCell ⟨w.heap.size + 1, 0, none⟩ (.int .i64 n1)).heap[w.heap.size + 1]? = _
      exact heap_setCell_same _ (w.heap.size + 1) 0 #[.int .i64 0] _ (.int .i64 n1) (by rw [heap_setCell_other _ _ _ _ (by show w.heap.size + 1 ≠ w.heap.size; omega)]; exact B1)
    refine ⟨rfl, ⟨g', hR', hg'⟩, blk_cell q0 0 rfl, blk_cell q1 0 rfl, ⟨hos.trans kk.os, htp.trans kk.tape, hout.trans kk.output, by omega, fun i hi hn => ?_⟩, by omega⟩
    simp only [List.mem_singleton] at hn
    rw [hbl i (by omega) hn, reader.putAll_far]
    · exact kk.block i hi (by simp)
    · intro x hx a ha
      simp only [List.zip_cons_cons, List.zip_nil_right, List.mem_cons, List.not_mem_nil, or_false] at hx
      rcases hx with rfl | rfl <;> cases ha
      · show w.heap.size ≠ i; omega
      · show w.heap.size + 1 ≠ i; omega

/-- behind DecodeReply -/
def DRep (xs : List Int) (w : World) (e : Ending) (w' : World) : Prop :=
  ∃ (er : Int) (l : List Int) (z : Int) (A : Option Addr) (n c : Nat), dRep xs = (er, l, z) ∧ e = .returned (.tuple #[.agg #[.int .i64 er, .slice A n c], .int .i64 z]) ∧ l.length = n ∧ Rd w' A (iv .i64 l) ∧ n ≤ c ∧ (A = none → c = 0) ∧ Kp [] w w'
def lenAt (w : World) (X : Nat) : Nat := match w.cell? ⟨X, 1, none⟩ with
  | some (.slice _ n _) => n
  | _ => 0
theorem RepAt.lenAt {w : World} {b : Nat} {er : Int} {A : Option Addr} {n c : Nat} (h : RepAt w b er (.slice A n c)) : lenAt w b = n := by
  unfold opk.lenAt
  rw [h.cells.2]
/-- where DecodeReply stands -/
structure DR (w wr : World) (M b X : Nat) (n0 n1 : Nat) (v : Value) (l : List Int) (s : Option (List Int)) : Prop where
  kp : Kp [] w wr
  res : RepAt wr w.heap.size 0 (.slice none 0 0)
  many : wr.cell? ⟨M, 0, none⟩ = some (.int .i64 n1)
  x : RepAt wr X n0 v
  own : wr.ownsRow 0 3 1 v l.length (iv .i64 l)
  lo : ∀ y, v.ownBlock = some y → X < y
  rdr : ∃ g, reader.Rdr wr b g s ∧ ∀ y, g = some y → w.heap.size < y ∧ y < X
  ord : w.heap.size < b ∧ w.heap.size < M ∧ b < X ∧ M < X ∧ M ≠ b
theorem DR.skip {w wr w1 : World} {M b X n0 n1 : Nat} {v : Value} {l : List Int} {s : Option (List Int)} (h : DR w wr M b X n0 n1 v l s) (k : Kp [] wr w1) : DR w w1 M b X n0 n1 v l s := by
  obtain ⟨g, hr, hg⟩ := h.rdr
  exact ⟨h.kp.trans k (by simp), h.res.kp k (by simp), k.cell h.many (by simp), h.x.kp k (by simp), k.own h.own (by simp), h.lo, ⟨g, hr.kp k (by simp) (by simp), hg⟩, h.ord⟩
/-- a number is taken -/
theorem DR.took {w wr w1 : World} {M b X n0 n1 : Nat} {v : Value} {l : List Int} {s s' : Option (List Int)} {g g' : Option Nat} (h : DR w wr M b X n0 n1 v l s) (hg : ∀ y, g = some y → w.heap.size < y ∧ y < X) (R : reader.Rdr w1 b g' s') (G : g' = g ∨ g' = none) (k : Kp [b] wr w1) : DR w w1 M b X n0 n1 v l s' := by
  obtain ⟨o1, o2, o3, o4, o5⟩ := h.ord
  have hb : ∀ x ∈ [b], x ∈ ([] : List Nat) ∨ w.heap.size ≤ x := by intro x hx; simp at hx; right; omega
  exact ⟨h.kp.trans k hb, h.res.kp k (by simp; omega), k.cell h.many (by simpa using o5), h.x.kp k (by simp; omega), k.own h.own (fun y hy => by have := h.lo y hy; simp; omega), h.lo, ⟨g', R, fun y hy => by rcases G with e | e; exact hg y (by rw [← e]; exact hy); rw [e] at hy; cases hy⟩, h.ord⟩
/-- and appended, and stored -/
theorem DR.put {w wr w2 : World} {M b X n0 n1 : Nat} {v v' : Value} {l : List Int} {s : Option (List Int)} {y : Int} {n : Nat} (h : DR w wr M b X n0 n1 v l s) (hl : l.length = n) (o : w2.ownsRow 0 3 1 v' (n + 1) (iv .i64 l ++ [.int .i64 y])) (k : Kp v.ownBlock.toList wr w2) (a : At wr.heap.size v.ownBlock v'.ownBlock) :
    w2.cell? ⟨X, 1, none⟩ = some v ∧ w2.frozen? ⟨X, 1, none⟩ = false ∧ DR w (w2.setCell ⟨X, 1, none⟩ v') M b X n0 n1 v' (l ++ [y]) s := by
  subst hl
  obtain ⟨o1, o2, o3, o4, o5⟩ := h.ord
  obtain ⟨g, hr, hg⟩ := h.rdr
  have hXlt := lt_of_block h.x
  have hX : X ∉ v.ownBlock.toList := fun hm => by have := h.lo X (by simpa using hm); omega
  have hx2 := h.x.kp k hX
  have hS : ∀ i, i < X → i ∉ v.ownBlock.toList := fun i hi hm => by have := h.lo i (by simpa using hm); omega
  have ks : Kp [X] w2 (w2.setCell ⟨X, 1, none⟩ v') := (Kp.refl _ _).setCell (.inl (by simp)) _
  have lo' : ∀ z, v'.ownBlock = some z → X < z := by
    intro z hz
    rcases a with e | ⟨j, e, hj⟩
    · exact h.lo z (by rw [← e]; exact hz)
    · rw [e] at hz; cases hz; omega
  refine ⟨hx2.cells.2, hx2.free 1, ⟨(h.kp.row k (fun z hz => .inr (by have := h.lo z hz; omega))).trans ks (by intro z hz; simp at hz; omega), (h.res.kp k (hS _ (by omega))).kp ks (by simp; omega), ks.cell (k.cell h.many (hS _ o4)) (by simp; omega), heap_setCell_same w2 X 1 _ _ v' hx2, ?_, lo', ⟨g, (hr.kp k (hS _ o3) (fun z hz => hS z (hg z hz).2)).kp ks (by simp; omega) (fun z hz => by have := hg z hz; simp; omega), hg⟩, h.ord⟩⟩
  have o' := ks.own o (fun z hz => by have := lo' z hz; simp; omega)
  rw [List.length_append, iv_app]
  exact o'
end Go.Proofs.Ytiabdeciadfiiaa.opk

/- A row of bytes that is gathered. -/
namespace Go.Proofs.Ytiabdeciadfiiaa.H
open Go.RowKit
theorem Rs.pre {S : List Nat} {w : World} {A : Option Addr} {l r : List (List Int)} (h : Rs S w A (l ++ r)) : Rs S w A l := by
  intro j hj
  obtain ⟨a, Aj, cj, rfl, h0, hc, h1, h2, h3⟩ := h j (by rw [List.length_append]; omega)
  have e : (l ++ r)[j]'(by rw [List.length_append]; omega) = l[j] := List.getElem_append_left hj
  rw [e] at hc h1 h3
  exact ⟨a, Aj, cj, rfl, h0, hc, h1, h2, h3⟩
theorem Rs.take {S : List Nat} {w : World} {A : Option Addr} {l : List (List Int)} (h : Rs S w A l) (n : Nat) : Rs S w A (l.take n) := by
  have e : l = l.take n ++ l.drop n := (List.take_append_drop n l).symm
  rw [e] at h
  exact h.pre
/-- A row of bytes that is gathered: it owns X, in a block of the call's own. -/
structure Acc (w wr : World) (v : Value) (T : Nat) (X : List Int) : Prop where
  own : wr.ownsRow 0 5 1 v T (iv .u8 X)
  lo : ∀ g, v.ownBlock = some g → w.heap.size ≤ g
  kp : Kp [] w wr
theorem Acc.len {w wr : World} {v : Value} {T : Nat} {X : List Int} (h : Acc w wr v T X) : X.length = T := by have := h.own.1; rw [iv_len] at this; omega
theorem Acc.keep {w wr w1 : World} {v : Value} {T : Nat} {X : List Int} (h : Acc w wr v T X) (k : Kp [] wr w1) : Acc w w1 v T X := ⟨k.own h.own (by simp), h.lo, h.kp.trans k (by simp)⟩
theorem Acc.more {w wr w1 : World} {v v1 : Value} {T m T' : Nat} {X y : List Int} (h : Acc w wr v T X) (o : w1.ownsRow 0 5 1 v1 (T + m) (iv .u8 X ++ iv .u8 y)) (k : Kp v.ownBlock.toList wr w1) (a : At wr.heap.size v.ownBlock v1.ownBlock) (hT : T' = T + m) : Acc w w1 v1 T' (X ++ y) :=
  ⟨by rw [iv_app, hT]; exact o, a.ge h.kp.size h.lo, h.kp.row k (fun x hx => .inr (h.lo x hx))⟩
theorem Acc.one {w wr w1 : World} {v v1 : Value} {T T' : Nat} {X : List Int} {y : Int} (h : Acc w wr v T X) (o : w1.ownsRow 0 5 1 v1 (T + 1) (iv .u8 X ++ [.int .u8 y])) (k : Kp v.ownBlock.toList (wr.alloc (.cells #[.int .u8 y] 5)) w1) (a : At (wr.heap.size + 1) v.ownBlock v1.ownBlock) (hT : T' = T + 1) : Acc w w1 v1 T' (X ++ [y]) :=
  ⟨by rw [iv_app, hT]; exact o, a.ge (by have := h.kp.size; omega) h.lo, (h.kp.alloc _).row k (fun x hx => .inr (h.lo x hx))⟩
theorem Acc.empty {w w2 : World} (k : Kp [] w w2) : Acc w (w2.alloc (.cells #[] 5)) (.slice (some ⟨w2.heap.size, 0, none⟩) 0 0) 0 [] :=
  ⟨own_new w2 [] _ (Nat.zero_le _), by have := k.size; intro g hg; simp [Value.ownBlock] at hg; omega, k.alloc _⟩
theorem Acc.nil (w : World) : Acc w w (.slice none 0 0) 0 [] := ⟨World.ownsRow_nil w 0 _ 1, by simp [Value.ownBlock], Kp.refl _ _⟩
end Go.Proofs.Ytiabdeciadfiiaa.H

/- haystackref13.Encode. -/
namespace Go.Proofs.Ytiabdeciadfiiaa.ref13
open Go.RowKit H O opk haystacklaw13

theorem acc_off {w w' : World} {o : Obj} {v : Value} {T : Nat} {X : List Int} (h : Acc (w.alloc o) w' v T X) : v.ownBlock ≠ some w.heap.size := by
  intro hb
  have := h.lo _ hb
  rw [World.size_alloc] at this
  omega
theorem enc_fin {k cl sq : Int} {key : ByteArray} {text : List Int} {w w0 w' : World} {v : Value} {T : Nat} (he : opErr k cl sq key.size text.length = 0) (h : Acc w0 w' v T (opBytes k cl sq key text)) (k0 : Kp [] w w0) :
    EncPost k cl sq key text w (.returned (.tuple #[v, .int .i64 0])) w' := by
  refine ⟨v, by rw [he], ?_, k0.trans h.kp (by simp)⟩
  rw [he, if_pos rfl]
  exact ⟨by rw [h.len]; exact h.own, fun g hg => Nat.le_trans k0.size (h.lo g hg)⟩
theorem within1_iff {x : Int} : within1 x = true ↔ ¬ x < 0 ∧ ¬ 1099511627776 < x := by
  unfold within1
  simp only [Bool.and_eq_true, decide_eq_true_eq]
  omega

end Go.Proofs.Ytiabdeciadfiiaa.ref13

/- Arguments opened: what a reading of a slice of numbers, of rows of numbers, says in the words of Heap. Over any program. -/
namespace Go.Proofs.Ytiabdeciadfiiaa.H
open Go.ChangeShapes Go.WideShapes Go.ChangeAt Go.RowKit Go.Deep

section
variable {H : Type} {enc : TypeId × Value → H} {P : Program} {W : World}

theorem open_nums {t e : TypeId} {k : IntKind} {A : Option Addr} {n c : Nat} {d : DataW H} {ps : List MemPlace} (ht : P.underlying t = some (.slice e)) (he : P.underlying e = some (.int k)) (hc : P.cellsOf e = 1)
    (h : DataW.Trod enc P W 0 (fun _ => true) true t (.slice A n c) d ps) :
    ∃ xs : List Int, xs.length = n ∧ Rd W A (iv k xs) ∧ n ≤ c ∧ c ≤ 9223372036854775807 ∧ (A = none → c = 0) ∧ ∀ x ∈ xs, (Lit.int k x).wf = true := by
  obtain ⟨fuel, hf⟩ := h
  rcases open_ints ht he hc hf with ⟨hcs, _⟩ | ⟨x, l, cp, zs, hcs, _, hl, hm, hz, _, hcell, hwz⟩
  · simp [Value.cells] at hcs
    obtain ⟨rfl, rfl, rfl⟩ := hcs
    exact ⟨[], rfl, Rd.nil _ _, Nat.le_refl _, by omega, fun _ => rfl, by simp⟩
  · simp [Value.cells] at hcs
    obtain ⟨rfl, rfl, rfl⟩ := hcs
    have hz' : zs.length = c := by simpa using hz
    refine ⟨zs.take n, by rw [List.length_take]; omega, ?_, hl, hm, by simp, fun y hy => hwz y (List.mem_of_mem_take hy)⟩
    intro j v hv
    have hj : j < n := by
      have := (List.getElem?_eq_some_iff.1 hv).1
      rw [iv_len, List.length_take] at this
      omega
    refine ⟨x, rfl, ?_⟩
    rw [hcell j (by omega), ← hv]
    simp [iv, hj, show j < zs.length by omega]

theorem open_rows {t e q : TypeId} {A : Option Addr} {n c : Nat} {d : DataW H} {ps : List MemPlace} (ht : P.underlying t = some (.slice e)) (he : P.underlying e = some (.slice q)) (hq : P.underlying q = some (.int .u8))
    (ce : P.cellsOf e = 1) (cq : P.cellsOf q = 1) (h : DataW.Trod enc P W 0 (fun _ => true) true t (.slice A n c) d ps) :
    ∃ l : List (List Int), l.length = n ∧ Rs [] W A l ∧ n ≤ c ∧ c ≤ 9223372036854775807 ∧ (A = none → c = 0) ∧ ∀ x ∈ l, x.length ≤ 9223372036854775807 ∧ ∀ y ∈ x, (Lit.int .u8 y).wf = true := by
  obtain ⟨fuel, hf⟩ := h
  rcases open_int_rows ht he hq ce cq hf with ⟨hcs, _⟩ | ⟨x, l, cp, B, L, C, Z, hcs, _, hl, hm, _, hr⟩
  · simp [Value.cells] at hcs
    obtain ⟨rfl, rfl, rfl⟩ := hcs
    exact ⟨[], rfl, fun j hj => absurd hj (by simp), Nat.le_refl _, by omega, fun _ => rfl, by simp⟩
  · simp [Value.cells] at hcs
    obtain ⟨rfl, rfl, rfl⟩ := hcs
    refine ⟨(List.range n).map fun j => (Z j).take (L j), by simp, ?_, hl, hm, by simp, ?_⟩
    · intro j hj
      have hjn : j < n := by simpa using hj
      obtain ⟨h1, h2, h3, h4, h5, h6, h7⟩ := hr j (by omega)
      have hlen : ((Z j).take (L j)).length = L j := by rw [List.length_take]; omega
      refine ⟨x, B j, C j, rfl, by simp, ?_, ?_, h6, ?_⟩
      · rw [h1]; simp [hlen]
      · simpa [hlen] using h2
      · intro i v hv
        have hv' : (iv .u8 ((Z j).take (L j)))[i]? = some v := by simpa using hv
        have hi : i < L j := by
          have := (List.getElem?_eq_some_iff.1 hv').1
          rw [iv_len, hlen] at this
          exact this
        cases hB : B j with
        | none => have := h6 hB; omega
        | some a' =>
          refine ⟨a', rfl, by simp, ?_⟩
          rw [(h7 a' hB).2 i (by omega), ← hv']
          simp [iv, hi, show i < (Z j).length by omega]
    · intro y hy
      obtain ⟨j, hj, rfl⟩ := List.mem_map.1 hy
      obtain ⟨h1, h2, h3, h4, h5, h6, h7⟩ := hr j (by have := List.mem_range.1 hj; omega)
      refine ⟨?_, fun z hz => h5 z (List.mem_of_mem_take hz)⟩
      rw [List.length_take]
      have h3' : C j ≤ 9223372036854775807 := h3
      omega

theorem sized_slice' {t e : TypeId} {A : Option Addr} {n c B j : Nat} {d : DataW H} {ps : List MemPlace} {ts : List TypeId} {ds : List (DataW H)}
    (hsz : (DataW.weightsEach P ts ds).all (· ≤ reachBytes) = true) (ht : ts[j]? = some t) (hd : ds[j]? = some d) (hu : P.underlying t = some (.slice e)) (hB : P.bytesOf e = B)
    (h : DataW.Trod enc P W 0 (fun _ => true) true t (.slice A n c) d ps) : n * B ≤ 140737488351232 := by
  obtain ⟨fuel, hf⟩ := h
  rcases open_slice hu hf with ⟨hcs, _⟩ | ⟨x, l, cp, m, k, D, Pl, hcs, _, hl, _, _, hx, _⟩
  · simp [Value.cells] at hcs
    obtain ⟨rfl, rfl, rfl⟩ := hcs
    simp
  · simp [Value.cells] at hcs
    obtain ⟨rfl, rfl, rfl⟩ := hcs
    obtain ⟨hx, _⟩ := Prod.mk.inj hx
    subst hx
    have z := sized_slice hsz ht hd hu
    rw [hB] at z
    simp only [List.length_map, List.length_range] at z
    exact Nat.le_trans (Nat.mul_le_mul_right _ (Nat.le_add_right _ _)) z
end

theorem wf_u8 {x : Int} (h : (Lit.int .u8 x).wf = true) : 0 ≤ x ∧ x < 256 := by
  have : 0 ≤ x ∧ x ≤ 255 := by simpa [Lit.wf, IntKind.min, IntKind.max, IntKind.signed, IntKind.bits] using h
  omega
theorem wf_i64 {x : Int} (h : (Lit.int .i64 x).wf = true) : -9223372036854775808 ≤ x ∧ x ≤ 9223372036854775807 := by
  simpa [Lit.wf, IntKind.min, IntKind.max, IntKind.signed, IntKind.bits] using h
theorem kp_of_chain {w w' : World} (h : Kp [] w w') : Below w.heap.size w w' := h.below

end Go.Proofs.Ytiabdeciadfiiaa.H

/- The walk of OpEncodes: any op as bytes, or refused; and back. -/
namespace Go.Proofs.Ytiabdeciadfiiaa.haystacklaw13
open Go.RowKit H O opk

theorem str_kb (s : ByteArray) : strOfNums (kb s) = s := kb_inj (kb_str (kb_wf s))
theorem dOpR_ob {k cl sq : Int} {key : ByteArray} {text : List Int} (he : opErr k cl sq key.size text.length = 0) : dOpR (opBytes k cl sq key text) = (k, cl, sq, key, text, 0) := by
  obtain ⟨⟨a1, a2⟩, ⟨b1, b2⟩, ⟨c1, c2⟩, d1, d2⟩ := ob_lim he
  have e := opBytes_eq k cl sq key text
  have q0 : stNum (some (opBytes k cl sq key text)) = (O.cl k, some (num cl ++ (num sq ++ (row (kb key) ++ (row text ++ []))))) := by rw [e]; exact stNum_num _ _
  have q1 := stNum_num cl (num sq ++ (row (kb key) ++ (row text ++ [])))
  have q2 := stNum_num sq (row (kb key) ++ (row text ++ []))
  have q3 := stBytes_row (kb key) (row text ++ []) (by rw [kb_len]; omega)
  have q4 := stBytes_row text [] (by omega)
  rw [dOpR_eq q0 q1 q2 q3 q4, cl_of a1 a2, cl_of b1 b2, cl_of c1 c2, kb_len, str_kb, if_pos ⟨rfl, he, rfl⟩]

/-- What either Encode hands back. -/
theorem enc_rd {k cl sq : Int} {key : ByteArray} {text X : List Int} {z : Int} {N : Nat} {w w' : World} {e : Ending} (h : EncPost k cl sq key text w e w') (hz : z = opErr k cl sq key.size text.length) (hX : X = if z = 0 then opBytes k cl sq key text else []) (hN : X.length = N) :
    ∃ A1 c1, e = .returned (.tuple #[.slice A1 N c1, .int .i64 z]) ∧ Rd w' A1 (iv .u8 X) ∧ Kp [] w w' ∧ N ≤ c1 ∧ (A1 = none → c1 = 0) := by
  obtain ⟨v, rfl, o, kk⟩ := h
  rw [← hz, ← hX] at o
  obtain ⟨A1, c1, rfl, h1, _, h3, h4⟩ := own_rd o.1
  rw [hN] at h1 ⊢
  rw [← hz]
  exact ⟨A1, c1, rfl, h3, kk, h1, h4⟩

end Go.Proofs.Ytiabdeciadfiiaa.haystacklaw13

/- Places: plain words; how they lie in memory. -/
namespace Go.Proofs.Ytiabdeciadfiiaa.opk
open Go.RowKit H O haystacklaw13

/-- places as values: a key and a number each -/
def mv (ms : List (ByteArray × Int)) : List Value := ms.flatMap fun m => [.string m.1, .int .i64 m.2]
theorem mv_nil : mv [] = [] := rfl
theorem mv_cons (m : ByteArray × Int) (ms : List (ByteArray × Int)) : mv (m :: ms) = .string m.1 :: .int .i64 m.2 :: mv ms := rfl
theorem mv_app (a b : List (ByteArray × Int)) : mv (a ++ b) = mv a ++ mv b := by simp [mv]
theorem mv_len (ms : List (ByteArray × Int)) : (mv ms).length = ms.length * 2 := by
  induction ms with
  | nil => rfl
  | cons m ms ih => rw [mv_cons, List.length_cons, List.length_cons, ih, List.length_cons]; omega
theorem mv_get : ∀ (ms : List (ByteArray × Int)) (i : Nat) (h : i < ms.length), (mv ms)[i * 2]? = some (.string ms[i].1) ∧ (mv ms)[i * 2 + 1]? = some (.int .i64 ms[i].2)
  | m :: ms, 0, _ => ⟨rfl, rfl⟩
  | m :: ms, i + 1, h => by
    have ih := mv_get ms i (by simpa using h)
    rw [mv_cons, show (i + 1) * 2 = i * 2 + 2 by omega]
    exact ⟨ih.1, ih.2⟩
theorem mv_one (ms : List (ByteArray × Int)) : ∀ u ∈ mv ms, u.oneCell' = true := by
  intro u hu
  obtain ⟨m, _, h⟩ := List.mem_flatMap.1 hu
  simp only [List.mem_cons, List.not_mem_nil, or_false] at h
  rcases h with rfl | rfl <;> rfl
/-- a place, read: its address written out -/
theorem mv_at {w : World} {A : Option Addr} {ms : List (ByteArray × Int)} (h : Rd w A (mv ms)) (i : Nat) (hi : i < ms.length) : ∃ b o, A = some ⟨b, o, none⟩ ∧ w.cell? ⟨b, o + i * 2, none⟩ = some (.string ms[i].1) ∧ w.cell? ⟨b, o + i * 2 + 1, none⟩ = some (.int .i64 ms[i].2) := by
  obtain ⟨g0, g1⟩ := mv_get ms i hi
  obtain ⟨a, ha, c0⟩ := h _ _ g0
  obtain ⟨a', ha', c1⟩ := h _ _ g1
  rw [ha] at ha'
  cases ha'
  obtain ⟨z, hz, cz⟩ := h 0 (.string ms[0].1) (by simpa using (mv_get ms 0 (by omega)).1)
  rw [ha] at hz
  cases hz
  obtain ⟨b, o, s⟩ := a
  obtain rfl : s = none := by simpa [Addr.add] using World.cell?_spot cz
  rw [Go.WideShapes.add_plain] at c0 c1
  exact ⟨b, o, ha, c0, by rw [Nat.add_assoc]; exact c1⟩

/-- places as bytes -/
def mRow (m : ByteArray × Int) : List Int := row (kb m.1) ++ num m.2
def mRows (ms : List (ByteArray × Int)) : List Int := ms.flatMap mRow
def mBytes (ms : List (ByteArray × Int)) : List Int := num (ms.length : Int) ++ mRows ms
theorem mRows_cons (m : ByteArray × Int) (ms : List (ByteArray × Int)) : mRows (m :: ms) = mRow m ++ mRows ms := rfl
theorem mRows_step (ms : List (ByteArray × Int)) (k : Nat) (h : k < ms.length) : mRows (ms.take (k + 1)) = mRows (ms.take k) ++ (row (kb ms[k].1) ++ num ms[k].2) := by
  rw [take_succ' ms k h, mRows, List.flatMap_append, List.flatMap_singleton]
  rfl
/-- how many bytes places have -/
def mSize (ms : List (ByteArray × Int)) : Nat := (ms.map fun m => 5 + m.1.size).sum
theorem mSize_step (ms : List (ByteArray × Int)) (k : Nat) (h : k < ms.length) : mSize (ms.take (k + 1)) = mSize (ms.take k) + 5 + ms[k].1.size := by
  rw [take_succ' ms k h, mSize, List.map_append, List.sum_append, List.map_singleton, List.sum_singleton, ← Nat.add_assoc]
  rfl
theorem mSize_le (ms : List (ByteArray × Int)) (k : Nat) : mSize (ms.take k) ≤ mSize ms := by
  have e : ms = ms.take k ++ ms.drop k := (List.take_append_drop k ms).symm
  conv => rhs; rw [e]
  simp only [mSize, List.map_append, List.sum_append]
  omega
theorem mSize_len (ms : List (ByteArray × Int)) : 5 * ms.length ≤ mSize ms := by
  induction ms with
  | nil => simp
  | cons m ms ih => simp only [mSize, List.map_cons, List.sum_cons, List.length_cons] at ih ⊢; omega
theorem mRows_len (ms : List (ByteArray × Int)) : (mRows ms).length ≤ 4 * mSize ms := by
  induction ms with
  | nil => simp [mRows]
  | cons m ms ih =>
    have h1 := row_len (kb m.1)
    have h2 := num_len m.2
    rw [kb_len] at h1
    simp only [mRows_cons, mRow, mSize, List.map_cons, List.sum_cons, List.length_append] at ih ⊢
    omega
theorem mRows_wf (ms : List (ByteArray × Int)) : Wf (mRows ms) := by
  intro x hx
  obtain ⟨m, _, h⟩ := List.mem_flatMap.1 hx
  rcases List.mem_append.1 h with h | h
  · exact row_u8 _ (kb_wf _) x h
  · exact num_u8 _ x h
theorem mBytes_wf (ms : List (ByteArray × Int)) : Wf (mBytes ms) := fun x hx => by
  rcases List.mem_append.1 hx with h | h
  · exact num_u8 _ x h
  · exact mRows_wf ms x h

/-- a place is taken -/
def mStep (s : Option (List Int)) : (ByteArray × Int) × Option (List Int) :=
  ((strOfNums (stBytes s).1, ((stNum (stBytes s).2).1 : Int)), if 1 ≤ (stBytes s).1.length ∧ (stBytes s).1.length ≤ 64 then (stNum (stBytes s).2).2 else none)
def mIter : Nat → Option (List Int) → List (ByteArray × Int) × Option (List Int)
  | 0, s => ([], s)
  | k + 1, s => ((mIter k s).1 ++ [(mStep (mIter k s).2).1], (mStep (mIter k s).2).2)
theorem mIter_len (k : Nat) (s : Option (List Int)) : (mIter k s).1.length = k := by
  induction k with
  | zero => rfl
  | succ k ih => simp [mIter, ih]
theorem mStep_none : (mStep none).2 = none := rfl
theorem mIter_stay {s : Option (List Int)} {k j : Nat} (h : (mIter k s).2 = none) (hj : k ≤ j) : (mIter j s).2 = none := by
  induction j with
  | zero => obtain rfl : k = 0 := by omega
            exact h
  | succ j ih =>
    by_cases e : k = j + 1
    · rw [← e]; exact h
    · show (mStep (mIter j s).2).2 = none
      rw [ih (by omega)]
      exact mStep_none
def dMs (xs : List Int) : List (ByteArray × Int) × Int :=
  match stNum (some xs) with
  | (n, s1) => if (mIter n s1).2 = some [] then ((mIter n s1).1, 0) else ([], 3)
theorem dMs_eq {xs : List Int} {n : Nat} {s1 : Option (List Int)} (h : stNum (some xs) = (n, s1)) : dMs xs = if (mIter n s1).2 = some [] then ((mIter n s1).1, 0) else ([], 3) := by
  simp only [dMs, h]
theorem stNum_short {s : Option (List Int)} {l : List Int} (h : (stNum s).2 = some l) : l.length < (left s).length := by
  cases s with
  | none => simp [stNum] at h
  | some r =>
    cases hd : dec r with
    | none => simp [stNum, hd] at h
    | some x =>
      obtain ⟨v, q⟩ := x
      obtain ⟨p, e, hp⟩ := dec_suffix hd
      simp only [stNum, hd, Option.some.injEq] at h
      subst h
      simp only [left, Option.getD_some]
      rw [e, List.length_append]
      have : 0 < p.length := List.length_pos_iff.2 hp
      omega
theorem mStep_short {s : Option (List Int)} {l : List Int} (h : (mStep s).2 = some l) : l.length < (left s).length := by
  unfold mStep at h
  simp only at h
  split at h
  · have h1 := stNum_short h
    have h2 := stBytes_left (s := s) (Nat.le_refl _)
    omega
  · cases h
/-- So many places have come at most. -/
theorem mIter_count {s : Option (List Int)} {k : Nat} {l : List Int} (h : (mIter k s).2 = some l) : k + l.length ≤ (left s).length := by
  induction k generalizing l with
  | zero => have : s = some l := h
            subst this
            simp [left]
  | succ k ih =>
    have h' : (mStep (mIter k s).2).2 = some l := h
    have h1 := mStep_short h'
    cases e : (mIter k s).2 with
    | none => rw [e] at h'; simp [mStep_none] at h'
    | some r =>
      have := ih e
      rw [e] at h1
      simp only [left, Option.getD_some] at h1
      omega
theorem mIter_left (k : Nat) (s : Option (List Int)) : (left (mIter k s).2).length ≤ (left s).length := by
  cases e : (mIter k s).2 with
  | none => simp [left]
  | some l => have := mIter_count e; simp only [left, Option.getD_some]; simp only [left] at this; omega
theorem mStep_row {m : ByteArray × Int} {r : List Int} (hk : 1 ≤ m.1.size ∧ m.1.size ≤ 64) (hm : 0 ≤ m.2 ∧ m.2 ≤ 4611686018427387904) : mStep (some (mRow m ++ r)) = (m, some r) := by
  have h1 : stBytes (some (mRow m ++ r)) = (kb m.1, some (num m.2 ++ r)) := by
    rw [mRow, List.append_assoc]
    exact stBytes_row _ _ (by rw [kb_len]; omega)
  unfold mStep
  simp only [h1, stNum_num, kb_len, if_pos hk, cl_of hm.1 hm.2, str_kb]
end Go.Proofs.Ytiabdeciadfiiaa.opk

/- What is read is written so: the plain words. -/
namespace Go.Proofs.Ytiabdeciadfiiaa.O
open Go.RowKit H opk haystacklaw13

theorem decF_canon : ∀ (l : List Int) (i u v : Nat) (r : List Int), Wf l → decF i u l = some (v, r) → ∃ x, l = enc x ++ r ∧ v = u + x * 128 ^ i ∧ (i = 0 ∨ 0 < x)
  | [], i, u, v, r, _, h => by simp [decF] at h
  | c :: l, i, u, v, r, hw, h => by
    have hc := hw c (by simp)
    simp only [decF] at h
    split at h
    · cases h
    · rename_i h0
      split at h
      · split at h
        · cases h
        · simp only [Option.some.injEq, Prod.mk.injEq] at h
          obtain ⟨rfl, rfl⟩ := h
          refine ⟨c.toNat, ?_, rfl, by omega⟩
          rw [enc_lo (by omega)]
          simp only [List.cons_append, List.nil_append, List.cons.injEq, and_true]
          omega
      · obtain ⟨x, rfl, rfl, hx⟩ := decF_canon l (i + 1) _ v r (fun y hy => hw y (by simp [hy])) h
        refine ⟨c.toNat - 128 + 128 * x, ?_, ?_, .inr (by omega)⟩
        · rw [enc_hi (u := c.toNat - 128 + 128 * x) (by omega)]
          have e1 : (c.toNat - 128 + 128 * x) / 128 = x := by omega
          rw [e1, List.cons_append, List.cons.injEq]
          exact ⟨by omega, rfl⟩
        · have hp : 128 ^ (i + 1) = 128 ^ i * 128 := Nat.pow_succ ..
          have h1 : x * (128 ^ i * 128) = 128 * x * 128 ^ i := by rw [Nat.mul_comm (128 ^ i), ← Nat.mul_assoc, Nat.mul_comm x]
          rw [hp, h1, Nat.add_mul, Nat.add_assoc]
theorem dec_canon {l : List Int} {v : Nat} {r : List Int} (hw : Wf l) (h : dec l = some (v, r)) : l = num (v : Int) ++ r := by
  obtain ⟨x, e, hx, _⟩ := decF_canon l 0 0 v r hw h
  have hb := dec_bd h
  have e2 : cl (v : Int) = v := by have := cl_of (n := (v : Int)) (by omega) (by omega); omega
  rw [e, num, e2]
  have : v = x := by simpa using hx
  rw [this]
theorem stNum_canon {s : Option (List Int)} {n : Nat} {r : List Int} (hw : Wf (left s)) (h : stNum s = (n, some r)) : s = some (num (n : Int) ++ r) ∧ Wf r := by
  cases s with
  | none => simp [stNum] at h
  | some l =>
    cases hd : dec l with
    | none => simp [stNum, hd] at h
    | some x =>
      obtain ⟨v, q⟩ := x
      simp only [stNum, hd, Prod.mk.injEq, Option.some.injEq] at h
      obtain ⟨rfl, rfl⟩ := h
      have e := dec_canon (by simpa [left] using hw) hd
      refine ⟨congrArg some e, fun y hy => hw y ?_⟩
      simp only [left, Option.getD_some]
      rw [e]
      exact List.mem_append_right _ hy
theorem stBytes_canon {s : Option (List Int)} {p r : List Int} (hw : Wf (left s)) (h : stBytes s = (p, some r)) : s = some (row p ++ r) ∧ Wf p ∧ Wf r := by
  unfold stBytes at h
  obtain ⟨n, s1, hn⟩ : ∃ n s1, stNum s = (n, s1) := ⟨_, _, rfl⟩
  rw [hn] at h
  cases s1 with
  | none => simp [stRaw] at h
  | some l =>
    obtain ⟨e, hl⟩ := stNum_canon hw hn
    simp only [stRaw] at h
    split at h
    · cases h
    · simp only [Prod.mk.injEq, Option.some.injEq, Int.toNat_natCast] at h
      obtain ⟨rfl, rfl⟩ := h
      refine ⟨?_, Wf.take hl _, Wf.drop hl _⟩
      have hlen : (l.take n).length = n := by rw [List.length_take]; omega
      rw [e, row, hlen, List.append_assoc, List.take_append_drop]
theorem stNums_canon : ∀ (k : Nat) {s : Option (List Int)} {r : List Int}, Wf (left s) → (stNums k s).2 = some r → s = some (nums (stNums k s).1 ++ r)
  | 0, s, r, _, h => by
    have : s = some r := h
    rw [this]
    simp [stNums, nums_nil]
  | k + 1, s, r, hw, h => by
    obtain ⟨n, s1, hn⟩ : ∃ n s1, stNum s = (n, s1) := ⟨_, _, rfl⟩
    have e1 : (stNums (k + 1) s).1 = (n : Int) :: (stNums k s1).1 := by simp only [stNums, hn]
    have e2 : (stNums (k + 1) s).2 = (stNums k s1).2 := by simp only [stNums, hn]
    rw [e2] at h
    rw [e1, nums_cons]
    cases s1 with
    | none => rw [stNums_none] at h; cases h
    | some l =>
      obtain ⟨e, hl⟩ := stNum_canon hw hn
      have ih := stNums_canon k (s := some l) (by simpa [left] using hl) h
      rw [e, List.append_assoc]
      simp only [Option.some.injEq] at ih
      rw [← ih]
/-- an op's bytes -/
theorem op_canon {xs : List Int} {n0 n1 n2 : Nat} {s1 s2 s3 s4 : Option (List Int)} {p t : List Int} (hw : Wf xs) (h0 : stNum (some xs) = (n0, s1)) (h1 : stNum s1 = (n1, s2)) (h2 : stNum s2 = (n2, s3)) (h3 : stBytes s3 = (p, s4)) (h4 : stBytes s4 = (t, some [])) :
    opBytes n0 n1 n2 (strOfNums p) t = xs := by
  have hn : ∀ {k : Nat} {q : Option (List Int)}, stNum none = (k, q) → q = none := fun h => by simp [stNum] at h; exact h.2.symm
  have hbn : ∀ {k : List Int} {q : Option (List Int)}, stBytes none = (k, q) → q = none := fun h => by simp [stBytes, stNum, stRaw] at h; exact h.2.symm
  cases s4 with
  | none => cases hbn h4
  | some l4 =>
    cases s3 with
    | none => cases hbn h3
    | some l3 =>
      cases s2 with
      | none => cases hn h2
      | some l2 =>
        cases s1 with
        | none => cases hn h1
        | some l1 =>
          obtain ⟨e0, w0⟩ := stNum_canon (s := some xs) (by simpa [left] using hw) h0
          obtain ⟨e1, w1⟩ := stNum_canon (s := some l1) (by simpa [left] using w0) h1
          obtain ⟨e2, w2⟩ := stNum_canon (s := some l2) (by simpa [left] using w1) h2
          obtain ⟨e3, wp, w3⟩ := stBytes_canon (s := some l3) (by simpa [left] using w2) h3
          obtain ⟨e4, _, _⟩ := stBytes_canon (s := some l4) (by simpa [left] using w3) h4
          simp only [Option.some.injEq] at e0 e1 e2 e3 e4
          rw [opBytes_eq, kb_str wp, e0, e1, e2, e3, e4]
/-- a reply's bytes -/
theorem rep_canon {xs : List Int} {er : Int} {l : List Int} (hw : Wf xs) (h : dRep xs = (er, l, 0)) : repBytes er l = xs ∧ l.length ≤ 8 := by
  obtain ⟨n0, s1, h0⟩ : ∃ n s1, stNum (some xs) = (n, s1) := ⟨_, _, rfl⟩
  obtain ⟨n1, s2, h1⟩ : ∃ n s2, stNum s1 = (n, s2) := ⟨_, _, rfl⟩
  simp only [dRep, h0, h1] at h
  split at h
  · rename_i hc
    obtain ⟨ha, hb, hc⟩ := hc
    simp only [Prod.mk.injEq, and_true] at h
    obtain ⟨rfl, rfl⟩ := h
    cases s2 with
    | none => rw [stNums_none] at hc; cases hc
    | some l2 =>
      cases s1 with
      | none => simp [stNum] at h1
      | some l1 =>
        obtain ⟨e0, w0⟩ := stNum_canon (s := some xs) (by simpa [left] using hw) h0
        obtain ⟨e1, w1⟩ := stNum_canon (s := some l1) (by simpa [left] using w0) h1
        have e2 := stNums_canon n1 (s := some l2) (by simpa [left] using w1) hc
        have hl := reader.stNums_len n1 (some l2)
        simp only [Option.some.injEq, List.append_nil] at e0 e1 e2
        refine ⟨?_, by omega⟩
        rw [repBytes, hl, Nat.min_eq_left hb, List.take_of_length_le (by omega), e0, e1, ← e2]
        simp [nums_cons, nums_nil]
  · simp at h
theorem mStep_canon {s : Option (List Int)} {m : ByteArray × Int} {r : List Int} (hw : Wf (left s)) (h : mStep s = (m, some r)) : s = some (mRow m ++ r) ∧ Wf r ∧ m.1.size ≤ 64 := by
  obtain ⟨p, s1, hp⟩ : ∃ p s1, stBytes s = (p, s1) := ⟨_, _, rfl⟩
  obtain ⟨y, s2, hy⟩ : ∃ y s2, stNum s1 = (y, s2) := ⟨_, _, rfl⟩
  simp only [mStep, hp, hy, Prod.mk.injEq] at h
  obtain ⟨rfl, h⟩ := h
  split at h
  · rename_i hok
    subst h
    cases s1 with
    | none => simp [stNum] at hy
    | some l1 =>
      obtain ⟨e, wp, wl⟩ := stBytes_canon hw hp
      obtain ⟨e1, wr⟩ := stNum_canon (s := some l1) (by simpa [left] using wl) hy
      simp only [Option.some.injEq] at e1
      refine ⟨?_, wr, by rw [str_size]; omega⟩
      rw [e, e1, mRow, kb_str wp, List.append_assoc]
  · cases h
theorem mIter_canon : ∀ (k : Nat) {s : Option (List Int)} {r : List Int}, Wf (left s) → (mIter k s).2 = some r → s = some (mRows (mIter k s).1 ++ r) ∧ Wf r ∧ ∀ x ∈ (mIter k s).1, x.1.size ≤ 64
  | 0, s, r, hw, h => by
    have : s = some r := h
    subst this
    exact ⟨by simp [mIter, mRows], by simpa [left] using hw, by simp [mIter]⟩
  | k + 1, s, r, hw, h => by
    have h' : (mStep (mIter k s).2).2 = some r := h
    cases e : (mIter k s).2 with
    | none => rw [e] at h'; simp [mStep_none] at h'
    | some q =>
      obtain ⟨ih, wq, hs⟩ := mIter_canon k hw e
      rw [e] at h'
      obtain ⟨m, hm⟩ : ∃ m, (mStep (some q)).1 = m := ⟨_, rfl⟩
      obtain ⟨e1, wr, h64⟩ := mStep_canon (s := some q) (m := m) (r := r) (by simpa [left] using wq) (by rw [← hm, ← h'])
      have ex : (mIter (k + 1) s).1 = (mIter k s).1 ++ [m] := by rw [mIter, e, hm]
      rw [ex]
      refine ⟨?_, wr, ?_⟩
      · simp only [Option.some.injEq] at e1
        conv => lhs; rw [ih, e1]
        simp [mRows]
      · intro x hx
        rcases List.mem_append.1 hx with hx | hx
        · exact hs x hx
        · simp only [List.mem_singleton] at hx
          rw [hx]; exact h64
/-- places' bytes -/
theorem ms_canon {xs : List Int} {ms : List (ByteArray × Int)} (hw : Wf xs) (h : dMs xs = (ms, 0)) : mBytes ms = xs ∧ mSize ms ≤ 69 * ms.length := by
  obtain ⟨N, s1, h0⟩ : ∃ n s1, stNum (some xs) = (n, s1) := ⟨_, _, rfl⟩
  rw [dMs_eq h0] at h
  split at h
  · rename_i hc
    simp only [Prod.mk.injEq, and_true] at h
    subst h
    cases s1 with
    | none =>
      have := mIter_stay (s := none) (k := 0) (j := N) rfl (Nat.zero_le _)
      rw [this] at hc
      cases hc
    | some l1 =>
      obtain ⟨e0, w0⟩ := stNum_canon (s := some xs) (by simpa [left] using hw) h0
      obtain ⟨e1, _, h64⟩ := mIter_canon N (s := some l1) (by simpa [left] using w0) hc
      simp only [Option.some.injEq, List.append_nil] at e0 e1
      refine ⟨by rw [mBytes, mIter_len, ← e1, ← e0], ?_⟩
      have sz : ∀ (l : List (ByteArray × Int)), (∀ x ∈ l, x.1.size ≤ 64) → mSize l ≤ 69 * l.length := by
        intro l
        induction l with
        | nil => intro _; simp [mSize]
        | cons m l ih =>
          intro h
          have h1 := h m (by simp)
          have h2 := ih (fun x hx => h x (by simp [hx]))
          simp only [mSize, List.map_cons, List.sum_cons, List.length_cons] at h2 ⊢
          omega
      exact sz _ h64
  · simp at h
theorem dMs_len {xs : List Int} {ms : List (ByteArray × Int)} {z : Int} (h : dMs xs = (ms, z)) : ms.length ≤ xs.length := by
  obtain ⟨N, s1, h0⟩ : ∃ n s1, stNum (some xs) = (n, s1) := ⟨_, _, rfl⟩
  rw [dMs_eq h0] at h
  split at h
  · rename_i hc
    simp only [Prod.mk.injEq] at h
    rw [← h.1, mIter_len]
    have h1 := mIter_count hc
    have h2 := reader.left_le (s := some xs) (m := xs.length) (by simp [left])
    rw [h0] at h2
    simp only [List.length_nil] at h1
    simp only at h2
    omega
  · simp only [Prod.mk.injEq] at h
    rw [← h.1]
    simp
end Go.Proofs.Ytiabdeciadfiiaa.O

/- op.Matches. -/
namespace Go.Proofs.Ytiabdeciadfiiaa.opk
open Go.RowKit H O haystacklaw13

/-- A Writer of the call's own has laid ys. -/
structure MW (w : World) (b : Nat) (ys : List Int) (wr : World) : Prop where
  lo : w.heap.size ≤ b
  kp : Kp [] w wr
  wr : ∃ g, writer.Wr wr b g ys ∧ ∀ x, g = some x → w.heap.size ≤ x
theorem MW.lt {w wr : World} {b : Nat} {ys : List Int} (h : MW w b ys wr) : b < wr.heap.size := by
  obtain ⟨g, h1, _⟩ := h.wr
  exact h1.lt.1
theorem MW.new (w : World) : MW w w.heap.size [] (w.alloc (.cells #[.slice none 0 0] 79)) :=
  ⟨Nat.le_refl _, (Kp.refl [] w).alloc _, none, writer.Wr.new w, by simp⟩
theorem MW.keep {w wr w1 : World} {b : Nat} {ys : List Int} (h : MW w b ys wr) (k : Kp [] wr w1) : MW w b ys w1 := by
  obtain ⟨g, h1, h2⟩ := h.wr
  exact ⟨h.lo, h.kp.trans k (by simp), g, h1.kp k (by simp) (by simp), h2⟩
theorem MW.next {w wr w1 : World} {b : Nat} {ys zs : List Int} {g g' : Option Nat} (h : MW w b ys wr) (hg : ∀ x, g = some x → w.heap.size ≤ x) (W : writer.Wr w1 b g' zs) (A : At wr.heap.size g g') (k : Kp (b :: g.toList) wr w1) : MW w b zs w1 := by
  refine ⟨h.lo, h.kp.trans k ?_, g', W, A.ge h.kp.size hg⟩
  intro x hx
  rcases List.mem_cons.1 hx with rfl | hx
  · exact .inr h.lo
  · exact .inr (hg x (by simpa using hx))
/-- A number on the Writer. -/
theorem mat_num {w wr : World} {b : Nat} {ys : List Int} (h : MW w b ys wr) (x : Int) (hy : ys.length ≤ 1000000) :
    Calls Try.prog 39 #[.pointer (some ⟨b, 0, none⟩), .slice (some ⟨wr.heap.size, 0, none⟩) 1 1] (wr.alloc (.cells #[.int .i64 x] 3)) fun e w' => e = .returned (.tuple #[]) ∧ MW w b (ys ++ num x) w' := by
  obtain ⟨g, h1, h2⟩ := h.wr
  have hl := h1.lt
  refine (writer.nums_any b g ys (some ⟨wr.heap.size, 0, none⟩) 1 1 [x] _ (h1.kp ((Kp.refl [] wr).alloc _) (by simp) (by simp)) rfl (RdS.lit wr [.int .i64 x] _ ?_) (by omega)).mono ?_
  · intro z hz
    rcases List.mem_cons.1 hz with rfl | hz
    · exact hl.1
    · exact hl.2 z (by simpa using hz)
  · rintro e w' ⟨rfl, g', W, A, K⟩
    refine ⟨rfl, (h.keep ((Kp.refl [] wr).alloc _)).next h2 ?_ A K⟩
    rwa [nums_one] at W
/-- and out -/
theorem mat_out {w wr : World} {b : Nat} {ys : List Int} (h : MW w b ys wr) (hy : ys.length ≤ 10000000) :
    Calls Try.prog 41 #[.pointer (some ⟨b, 0, none⟩)] wr (fun e w' => ∃ v, e = .returned v ∧ Own 5 .u8 w' w.heap.size v ys ∧ Kp [] w w') := by
  obtain ⟨g, h1, h2⟩ := h.wr
  refine (writer.out_any b g ys wr h1 (by omega)).mono ?_
  rintro e w6 ⟨v, rfl, O6, K6⟩
  exact ⟨v, rfl, O6.lower h.kp.size, h.kp.trans K6 (by simp)⟩

end Go.Proofs.Ytiabdeciadfiiaa.opk

/- What a Reader (type haystackref1.Reader) holds. -/
namespace Go.Proofs.Ytiabdeciadfiiaa.refr
open Go.RowKit H O

/-- The Reader in block b: what is left of its bytes (in block g), or nothing: it erred. -/
def Rdr (w : World) (b : Nat) (g : Option Nat) (s : Option (List Int)) : Prop :=
  ∃ A c, w.heap[b]? = some (.cells #[.slice A (left s).length c, .bool s.isNone] 94 (0, 0)) ∧ A.map Addr.block = g ∧ Rd w A (iv .u8 (left s)) ∧ (left s).length ≤ c ∧ c ≤ 9223372036854775807 ∧
    (A = none → c = 0) ∧ g ≠ some b ∧ Wf (left s)
/-- Behind a call of a Reader's. -/
def RdrPost (b : Nat) (g : Option Nat) (val : Value) (s : Option (List Int)) (w : World) (e : Ending) (w' : World) : Prop :=
  e = .returned val ∧ ∃ g', Rdr w' b g' s ∧ (g' = g ∨ g' = none) ∧ Kp [b] w w'
/-- A new Reader. -/
def NewRdr (xs : List Int) (w : World) (e : Ending) (w' : World) : Prop :=
  ∃ b g, e = .returned (.pointer (some ⟨b, 0, none⟩)) ∧ Rdr w' b g (some xs) ∧ w.heap.size ≤ b ∧ (∀ x, g = some x → w.heap.size ≤ x ∧ x < w'.heap.size) ∧ Kp [] w w'

theorem Rdr.kp {w w1 : World} {b : Nat} {g : Option Nat} {s : Option (List Int)} {S : List Nat} (h : Rdr w b g s) (k : Kp S w w1) (hb : b ∉ S) (hg : ∀ x, g = some x → x ∉ S) : Rdr w1 b g s := by
  obtain ⟨A, c, h1, rfl, h3, h4, h5, h6, h7, h8⟩ := h
  exact ⟨A, c, k.blk h1 hb, rfl, k.rd h3 (fun a ha => hg _ (by simp [ha])), h4, h5, h6, h7, h8⟩
theorem Rdr.lt {w : World} {b : Nat} {g : Option Nat} {s : Option (List Int)} (h : Rdr w b g s) : b < w.heap.size := by
  obtain ⟨A, c, h1, _⟩ := h
  exact lt_of_block h1

theorem stNum_none {s : Option (List Int)} (h : dec (left s) = none) : stNum s = (0, none) := by
  cases s with
  | none => rfl
  | some l => simp only [left, Option.getD_some] at h; simp [stNum, h]
theorem stNum_some {s : Option (List Int)} {v : Nat} {r : List Int} (h : dec (left s) = some (v, r)) : stNum s = (v, some r) := by
  cases s with
  | none => simp [left, dec, decF] at h
  | some l => simp only [left, Option.getD_some] at h; simp [stNum, h]
theorem num_fail {b : Nat} {g : Option Nat} {s : Option (List Int)} {xs : List Int} {w w1 : World} (hx : xs = left s) (hd : decF 0 0 xs = none) (h : RdrPost b g (.tuple #[]) none w (.returned (.tuple #[])) w1) :
    RdrPost b g (.int .i64 ((stNum s).1 : Int)) (stNum s).2 w (.returned (.int .i64 0)) w1 := by
  subst hx
  rw [stNum_none hd]
  exact ⟨rfl, h.2⟩

theorem num_ok {b k c c' u1 : Nat} {a a' : Addr} {s : Option (List Int)} {xs : List Int} {w : World} (hb : w.heap[b]? = some (.cells #[.slice (some a) xs.length c, .bool s.isNone] 94 (0, 0)))
    (hR : Rdr w b (some a.block) s) (hx : xs = left s) (hd : decF 0 0 xs = some (u1, xs.drop (k + 1))) (hr : Rd w (some a') (iv .u8 (xs.drop (k + 1)))) (ha : a'.block = a.block) (hl : xs.length - (k + 1) ≤ c') (hc : c' ≤ 9223372036854775807) :
    RdrPost b (some a.block) (.int .i64 ((stNum s).1 : Int)) (stNum s).2 w (.returned (.int .i64 (u1 : Int))) (w.setCell ⟨b, 0, none⟩ (.slice (some a') (xs.length - (k + 1)) c')) := by
  obtain ⟨_, _, _, _, _, _, _, _, hne, hw⟩ := hR
  subst hx
  rw [stNum_some hd]
  have hs : s.isNone = false := by
    cases s with
    | none => simp [left, decF] at hd
    | some l => rfl
  rw [hs] at hb
  have hk := (Kp.refl [b] w).setCell (a := ⟨b, 0, none⟩) (.inl (by simp)) (.slice (some a') ((left s).length - (k + 1)) c')
  refine ⟨rfl, some a.block, ⟨some a', c', ?_, by simp [ha], ?_, by simpa [left] using hl, hc, by simp, hne, hw.drop _⟩, .inl rfl, hk⟩
  · have := heap_setCell_same w b 0 _ _ (.slice (some a') ((left s).length - (k + 1)) c') hb
    simpa [left] using this
  · exact hk.rd hr (fun x hx => by cases hx; rw [ha]; intro hm; exact hne (by simpa using hm))

theorem left_le {s : Option (List Int)} {m : Nat} (h : (left s).length ≤ m) : (left (stNum s).2).length ≤ m := by
  cases s with
  | none => simpa [stNum] using h
  | some l =>
    simp only [left, Option.getD_some] at h
    cases hd : dec l with
    | none => simp [stNum, hd, left]
    | some p =>
      obtain ⟨v, r⟩ := p
      obtain ⟨q, e, _⟩ := dec_suffix hd
      simp only [stNum, hd, left, Option.getD_some]
      have := congrArg List.length e
      simp only [List.length_append] at this
      omega

/-- Nothing went wrong, and nothing is left. -/
def whole (s : Option (List Int)) : Bool := s == some []
theorem left_map (s : Option (List Int)) (n : Nat) : left (s.map (·.drop n)) = (left s).drop n := by cases s <;> simp [left]
theorem Rdr.cut {b n c c' : Nat} {a a' : Addr} {s : Option (List Int)} {w : World} (hb : w.heap[b]? = some (.cells #[.slice (some a) (left s).length c, .bool s.isNone] 94 (0, 0)))
    (hne : some a.block ≠ some b) (hw : Wf (left s)) (hr : Rd w (some a') (iv .u8 ((left s).drop n))) (ha : a'.block = a.block) (hl : (left s).length - n ≤ c') (hc : c' ≤ 9223372036854775807) :
    Rdr (w.setCell ⟨b, 0, none⟩ (.slice (some a') ((left s).length - n) c')) b (some a.block) (s.map (·.drop n)) ∧ Kp [b] w (w.setCell ⟨b, 0, none⟩ (.slice (some a') ((left s).length - n) c')) := by
  have hk := (Kp.refl [b] w).setCell (a := ⟨b, 0, none⟩) (.inl (by simp)) (.slice (some a') ((left s).length - n) c')
  refine ⟨⟨some a', c', ?_, by simp [ha], ?_, by rw [left_map]; simpa using hl, hc, by simp, hne, by rw [left_map]; exact hw.drop _⟩, hk⟩
  · have := heap_setCell_same w b 0 _ _ (.slice (some a') ((left s).length - n) c') hb
    rw [left_map]
    simpa using this
  · rw [left_map]
    exact hk.rd hr (fun x hx => by cases hx; rw [ha]; intro hm; exact hne (by simpa using hm))

/-- Behind Raw: the bytes that came, in new memory; what the Reader holds. -/
def RawPost (b : Nat) (g : Option Nat) (r : List Int × Option (List Int)) (w : World) (e : Ending) (w' : World) : Prop :=
  ∃ v, e = .returned v ∧ Own 5 .u8 w' w.heap.size v r.1 ∧ ∃ g', Rdr w' b g' r.2 ∧ (g' = g ∨ g' = none) ∧ Kp [b] w w'

theorem stRaw_bad {s : Option (List Int)} {n : Int} (h : n < 0 ∨ ((left s).length : Int) < n) : stRaw n s = ([], none) := by
  cases s with
  | none => rfl
  | some l => simp only [stRaw]; rw [if_pos (by simpa [left] using h)]
theorem stRaw_good {s : Option (List Int)} {m : Nat} (h : m ≤ (left s).length) : stRaw (m : Int) s = ((left s).take m, s.map (·.drop m)) := by
  cases s with
  | none => simp [stRaw, left]
  | some l => simp only [stRaw]; rw [if_neg (by simp [left] at h ⊢; omega)]; simp [left]

theorem raw_ok {b m c c' len : Nat} {a a' : Addr} {s : Option (List Int)} {w w1 : World} {v : Value} (hR : Rdr w b (some a.block) s) (hl : (left s).length = len)
    (hb1 : w1.heap[b]? = some (.cells #[.slice (some a) len c, .bool s.isNone] 94 (0, 0))) (ho : Own 5 .u8 w1 w.heap.size v ((left s).take m)) (hk : Kp [] w w1)
    (hr : Rd w (some a') (iv .u8 ((left s).drop m))) (ha : a'.block = a.block) (hle : len - m ≤ c') (hc : c' ≤ 9223372036854775807) :
    RawPost b (some a.block) ((left s).take m, s.map (·.drop m)) w (.returned v) (w1.setCell ⟨b, 0, none⟩ (.slice (some a') (len - m) c')) := by
  have hlt := hR.lt
  obtain ⟨_, _, _, _, _, _, _, _, hne, hw⟩ := hR
  subst hl
  obtain ⟨h1, h2⟩ := Rdr.cut (n := m) (a' := a') (c' := c') hb1 hne hw (hk.rd hr (fun _ _ => by simp)) ha hle hc
  refine ⟨v, rfl, ho.kp h2 ?_, some a.block, h1, .inl rfl, (hk.mono (by simp)).trans h2 (fun x hx => .inl hx)⟩
  intro g hg
  have := ho.2 g hg
  simp
  omega

theorem raw_nil {b : Nat} {s : Option (List Int)} {w w1 : World} {v : Value} (hR : Rdr w b none s) (hl : (left s).length = 0)
    (hb1 : w1.heap[b]? = some (.cells #[.slice none 0 0, .bool s.isNone] 94 (0, 0))) (ho : Own 5 .u8 w1 w.heap.size v ((left s).take 0)) (hk : Kp [] w w1) :
    RawPost b none ((left s).take 0, s.map (·.drop 0)) w (.returned v) (w1.setCell ⟨b, 0, none⟩ (.slice none 0 0)) := by
  have hlt := hR.lt
  have e : s.map (·.drop 0) = s := by cases s <;> simp
  have e0 : left s = [] := List.eq_nil_of_length_eq_zero hl
  have h2 := (Kp.refl [b] w1).setCell (a := ⟨b, 0, none⟩) (.inl (by simp)) (.slice none 0 0)
  rw [e]
  refine ⟨v, rfl, ho.kp h2 ?_, none, ⟨none, 0, ?_, rfl, by rw [e0]; exact Rd.nil _ _, by show (left s).length ≤ 0; omega, by omega, fun _ => rfl, by simp, by rw [e0]; exact Wf.nil⟩, .inl rfl, (hk.mono (by simp)).trans h2 (fun x hx => .inl hx)⟩
  · intro g hg
    have := ho.2 g hg
    simp
    omega
  · have := heap_setCell_same w1 b 0 _ _ (.slice none 0 0) hb1
    rw [hl]
    simpa using this


/-- Bad's two stores. -/
theorem Rdr.bad {w : World} {b : Nat} {g : Option Nat} {cs : Array Value} {x y : Value} (hcs : cs = #[x, y]) (hb : w.heap[b]? = some (.cells cs 94 (0, 0))) :
    RdrPost b g (.tuple #[]) none w (.returned (.tuple #[])) ((w.setCell ⟨b, 0, none⟩ (.slice none 0 0)).setCell ⟨b, 1, none⟩ (.bool true)) ∧
    RdrPost b g (.tuple #[]) none w (.returned (.tuple #[])) ((w.setCell ⟨b, 1, none⟩ (.bool true)).setCell ⟨b, 0, none⟩ (.slice none 0 0)) := by
  subst hcs
  refine ⟨⟨rfl, none, ⟨none, 0, ?_, rfl, Rd.nil _ _, Nat.le_refl _, by omega, fun _ => rfl, by simp, Wf.nil⟩, .inr rfl, ?_⟩, ⟨rfl, none, ⟨none, 0, ?_, rfl, Rd.nil _ _, Nat.le_refl _, by omega, fun _ => rfl, by simp, Wf.nil⟩, .inr rfl, ?_⟩⟩
  · have h1 := heap_setCell_same w b 0 _ _ (.slice none 0 0) hb
    exact heap_setCell_same _ b 1 _ _ (.bool true) h1
  · exact ((Kp.refl [b] w).setCell (.inl (by simp)) _).setCell (.inl (by simp)) _
  · have h1 := heap_setCell_same w b 1 _ _ (.bool true) hb
    exact heap_setCell_same _ b 0 _ _ (.slice none 0 0) h1
  · exact ((Kp.refl [b] w).setCell (.inl (by simp)) _).setCell (.inl (by simp)) _
theorem RdrPost.none_of {b : Nat} {g g' : Option Nat} {w w1 w2 : World} {v u : Value} (h : RdrPost b g' v none w1 (.returned v) w2) (hg : g' = g ∨ g' = none) (hk : Kp [b] w w1) : RdrPost b g u none w (.returned u) w2 := by
  obtain ⟨_, g2, h1, h2, h3⟩ := h
  refine ⟨rfl, g2, h1, ?_, hk.trans h3 (fun x hx => .inl hx)⟩
  rcases h2 with rfl | rfl
  · exact hg
  · exact .inr rfl

end Go.Proofs.Ytiabdeciadfiiaa.refr

/- The document's Reader: Bad, Raw, Num, Bytes, Whole. -/
namespace Go.Proofs.Ytiabdeciadfiiaa.refr
open Go.RowKit H O

theorem bad_any (b : Nat) (g : Option Nat) (s : Option (List Int)) (w : World) (hR : Rdr w b g s) :
    Calls Try.prog 76 #[.pointer (some ⟨b, 0, none⟩)] w (RdrPost b g (.tuple #[]) none w) := by
  obtain ⟨A, c, hb, rfl, hr, hl, hm, hn, hne, hw⟩ := hR
  have c0 := blk_cell hb 0 rfl
  have c1 := blk_cell hb 1 rfl
  have f0 := blk_free hb 0
  have f1 := blk_free hb 1
  have HB := As.mk (Rdr.bad (g := A.map Addr.block) rfl hb).2
  clear hb hr hl hm hn hne hw
  go_enter Try.func76, Try.ntmps76
  go_wp2
  go_end0
  exact HB.out

theorem whole_any (b : Nat) (g : Option Nat) (s : Option (List Int)) (w : World) (hR : Rdr w b g s) :
    Calls Try.prog 52 #[.pointer (some ⟨b, 0, none⟩)] w fun e w' => e = .returned (.bool (whole s)) ∧ w' = w := by
  obtain ⟨A, c, hb, rfl, _⟩ := hR
  have c0 := blk_cell hb 0 rfl
  have c1 := blk_cell hb 1 rfl
  clear hb
  rcases s with _ | ⟨_ | ⟨x, l⟩⟩
  · go_enter Try.func52, Try.ntmps52
    go_wp2
    go_ret
    exact ⟨rfl, rfl⟩
  · go_enter Try.func52, Try.ntmps52
    go_wp2
    go_ret
    exact ⟨rfl, rfl⟩
  · have hl : (((left (some (x :: l))).length : Int) == 0) = false := by simp [left]; omega
    go_enter Try.func52, Try.ntmps52
    go_wp2
    go_ret
    exact ⟨rfl, rfl⟩

set_option maxHeartbeats 4000000 in
theorem raw_any (b : Nat) (g : Option Nat) (s : Option (List Int)) (n : Int) (w : World) (hR : Rdr w b g s) (hb : (left s).length ≤ 140737488351232) :
    Calls Try.prog 75 #[.pointer (some ⟨b, 0, none⟩), .int .i64 n] w (RawPost b g (stRaw n s) w) := by
  have HBAD := As.mk (bad_any b g s w hR)
  have HRR := As.mk hR
  obtain ⟨A, c, hb0, rfl, hr, hl, hm, hn, hne, hw⟩ := hR
  obtain ⟨len, hlen⟩ : ∃ len, (left s).length = len := ⟨_, rfl⟩
  rw [hlen] at hb0 hl hb
  have c0 := blk_cell hb0 0 rfl
  have c1 := blk_cell hb0 1 rfl
  have HB := As.mk hb0
  have HR := As.mk hr
  have HL := As.mk hlen
  have HN := As.mk hn
  clear hb0 hr hn hne hw hlen
  by_cases h0 : n < 0
  · have HS := As.mk (stRaw_bad (s := s) (.inl h0))
    go_enter Try.func75, Try.ntmps75
    go_wp2_with (go_at_call 76; refine HBAD.out.mono ?_; rintro e w1 HP; obtain rfl := HP.1; have HPA := As.mk HP; obtain ⟨_, g1, ⟨A1, k1, hb1, _⟩, _⟩ := HP; have c11 := blk_cell hb1 1 rfl; clear hb1)
    go_ret
    rw [HS.out]
    exact ⟨_, rfl, Own.nil _ _ _ _, HPA.out.2⟩
  · by_cases h1 : (len : Int) < n
    · have HS := As.mk (stRaw_bad (s := s) (n := n) (.inr (by rw [HL.out]; exact h1)))
      go_enter Try.func75, Try.ntmps75
      go_wp2_with (go_at_call 76; refine HBAD.out.mono ?_; rintro e w1 HP; obtain rfl := HP.1; have HPA := As.mk HP; obtain ⟨_, g1, ⟨A1, k1, hb1, _⟩, _⟩ := HP; have c11 := blk_cell hb1 1 rfl; clear hb1)
      go_ret
      rw [HS.out]
      exact ⟨_, rfl, Own.nil _ _ _ _, HPA.out.2⟩
    · obtain ⟨m, rfl⟩ := Int.eq_ofNat_of_zero_le (by omega : 0 ≤ n)
      have hml : m ≤ len := by omega
      have hbl := HRR.out.lt
      clear h0 h1
      cases s with
      | none =>
        go_enter Try.func75, Try.ntmps75
        go_wp2
        go_ret
        exact ⟨_, rfl, Own.nil _ _ _ _, _, HRR.out, .inl rfl, Kp.refl _ _⟩
      | some l =>
        have HS := As.mk (stRaw_good (s := some l) (m := m) (by rw [HL.out]; exact hml))
        cases A with
        | none =>
          have hc := HN.out rfl
          subst hc
          obtain rfl : len = 0 := by omega
          obtain rfl : m = 0 := by omega
          go_enter Try.func75, Try.ntmps75
          go_wp2_with (at_builtin; refine clone.app8 rfl (.tmp 23) (.tmp 29) rfl (.slice (some ⟨w.heap.size, 0, none⟩) 0 0) 0 [] rfl (own_new w [] _ (Nat.zero_le _)) none 0 0 [] rfl rfl (Rd.nil _ _) (by simp) (by simp) (by omega) ?_; intro v1 w1 o1 k1 a1; obtain ⟨A1, c1', rfl, _⟩ := own_rd o1; have ho := own_of_app (k := .u8) (lo := w.heap.size) (ys := []) rfl o1 a1 (by simp) (by simp [Value.ownBlock]); have hk := kp_of_new k1; have hb1 := hk.blk HB.out (by simp); have c01 := blk_cell hb1 0 rfl; have f01 := blk_free hb1 0; have HO := As.mk ho; have HK := As.mk hk; have HB1 := As.mk hb1; clear o1 k1 a1 ho hk hb1)
          go_ret
          show RawPost _ _ (stRaw ((0 : Nat) : Int) (some l)) _ _ _
          rw [HS.out]
          exact raw_nil HRR.out HL.out HB1.out (by simpa using HO.out) HK.out
        | some a =>
          go_enter Try.func75, Try.ntmps75
          go_wp2_with (at_builtin; refine clone.app8 rfl (.tmp 23) (.tmp 29) rfl (.slice (some ⟨w.heap.size, 0, none⟩) 0 0) 0 [] rfl (own_new w [] _ (Nat.zero_le _)) (some a) m c (iv .u8 (l.take m)) rfl (by rw [iv_len, List.length_take]; have h9 := HL.out; simp only [left, Option.getD_some] at h9; omega) (((Kp.refl [] w).alloc _).rd_new (by rw [← iv_take]; exact HR.out.take m) (by simp)) (by simp) (iv_one _ _) (by omega) ?_; intro v1 w1 o1 k1 a1; obtain ⟨A1, c1', rfl, _⟩ := own_rd o1; have ho := own_of_app (k := .u8) (lo := w.heap.size) (ys := l.take m) (by rw [List.length_take]; have h9 := HL.out; simp only [left, Option.getD_some] at h9; omega) o1 a1 (by simp) (by simp [Value.ownBlock]); have hk := kp_of_new k1; have hb1 := hk.blk HB.out (by simp); have c01 := blk_cell hb1 0 rfl; have f01 := blk_free hb1 0; have HO := As.mk ho; have HK := As.mk hk; have HB1 := As.mk hb1; clear o1 k1 a1 ho hk hb1)
          all_goals go_ret
          all_goals rw [HS.out]
          · exact raw_ok HRR.out HL.out HB1.out (by have h9 := HO.out; rw [Nat.zero_add] at h9; exact h9) HK.out (a' := a) (by rw [← iv_drop, List.drop_of_length_le (by rw [iv_len, HL.out]; omega)]; exact Rd.nil _ _) rfl (by omega) (by omega)
          · exact raw_ok HRR.out HL.out HB1.out (by have h9 := HO.out; rw [Nat.zero_add] at h9; exact h9) HK.out (a' := a.add m) (by rw [← iv_drop]; exact HR.out.drop _) (add_block _ _) (by omega) (by omega)

end Go.Proofs.Ytiabdeciadfiiaa.refr

/- The document's Reader: Num, Bytes. -/
namespace Go.Proofs.Ytiabdeciadfiiaa.refr
open Go.RowKit H O

/-- What Num comes to from digit i on. -/
def cont (i u : Nat) (s : Option (List Int)) : Nat × Option (List Int) :=
  match s with
  | none => (0, none)
  | some l => match decF i u l with
    | none => (0, none)
    | some (v, r) => (v, some r)
theorem cont_zero (s : Option (List Int)) : stNum s = cont 0 0 s := rfl
theorem stRaw_cons (c : Int) (r : List Int) : stRaw 1 (some (c :: r)) = ([c], some r) := by
  simp only [stRaw]
  rw [if_neg (by simp only [List.length_cons]; omega)]
  rfl
theorem stRaw_empty : stRaw 1 (some []) = ([], none) := rfl
theorem cont_none {i u : Nat} {l : List Int} (h : decF i u l = none) : cont i u (some l) = (0, none) := by simp only [cont, h]
theorem cont_some {i u v : Nat} {l r : List Int} (h : decF i u l = some (v, r)) : cont i u (some l) = (v, some r) := by simp only [cont, h]
theorem cont_step {i u u' i' : Nat} {l r : List Int} (h : decF i u l = decF i' u' r) : cont i u (some l) = cont i' u' (some r) := by simp only [cont, h]

/-- What a round of Num knows. -/
def At1 (b : Nat) (g : Option Nat) (s : Option (List Int)) (w : World) (i u : Nat) (s' : Option (List Int)) (wr : World) : Prop :=
  stNum s = cont i u s' ∧ u < 128 ^ i ∧ (left s').length ≤ 140737488351232 ∧ ∃ g', Rdr wr b g' s' ∧ (g' = g ∨ g' = none) ∧ Kp [b] w wr

theorem fail_of {b : Nat} {g g1 g2 : Option Nat} {s : Option (List Int)} {w wr w1 : World} (h : stNum s = (0, none)) (HP : Rdr w1 b g2 none ∧ (g2 = g1 ∨ g2 = none) ∧ Kp [b] wr w1) (hg : g1 = g ∨ g1 = none) (hk : Kp [b] w wr) :
    RdrPost b g (.int .i64 ((stNum s).1 : Int)) (stNum s).2 w (.returned (.int .i64 0)) w1 := by
  rw [h]
  obtain ⟨h1, h2, h3⟩ := HP
  refine ⟨rfl, g2, h1, ?_, hk.trans h3 (fun x hx => .inl hx)⟩
  rcases h2 with rfl | rfl
  · exact hg
  · exact .inr rfl
theorem fail_bad {b : Nat} {g g1 g2 : Option Nat} {s s' : Option (List Int)} {w wr w1 w2 : World} (h : stNum s = (0, none)) (HP : Rdr w1 b g2 s' ∧ (g2 = g1 ∨ g2 = none) ∧ Kp [b] wr w1) (hg : g1 = g ∨ g1 = none) (hk : Kp [b] w wr)
    (hB : RdrPost b g2 (.tuple #[]) none w1 (.returned (.tuple #[])) w2) : RdrPost b g (.int .i64 ((stNum s).1 : Int)) (stNum s).2 w (.returned (.int .i64 0)) w2 := by
  obtain ⟨_, h2, h3⟩ := HP
  obtain ⟨_, g3, b1, b2, b3⟩ := hB
  refine fail_of h (g2 := g3) ⟨b1, ?_, h3.trans b3 (fun x hx => .inl hx)⟩ hg hk
  rcases b2 with rfl | rfl
  · exact h2
  · exact .inr rfl
theorem ok_of {b u : Nat} {g g1 g2 : Option Nat} {s : Option (List Int)} {r : List Int} {w wr w1 : World} (h : stNum s = (u, some r)) (HP : Rdr w1 b g2 (some r) ∧ (g2 = g1 ∨ g2 = none) ∧ Kp [b] wr w1) (hg : g1 = g ∨ g1 = none) (hk : Kp [b] w wr) :
    RdrPost b g (.int .i64 ((stNum s).1 : Int)) (stNum s).2 w (.returned (.int .i64 (u : Int))) w1 := by
  rw [h]
  obtain ⟨h1, h2, h3⟩ := HP
  refine ⟨rfl, g2, h1, ?_, hk.trans h3 (fun x hx => .inl hx)⟩
  rcases h2 with rfl | rfl
  · exact hg
  · exact .inr rfl
theorem next_of {b k u : Nat} {g g1 g2 : Option Nat} {s : Option (List Int)} {c : Int} {r : List Int} {w wr w1 : World} (h : stNum s = cont k u (some r)) (hu : u < 128 ^ k) (hl : (left (some (c :: r))).length ≤ 140737488351232)
    (HP : Rdr w1 b g2 (some r) ∧ (g2 = g1 ∨ g2 = none) ∧ Kp [b] wr w1) (hg : g1 = g ∨ g1 = none) (hk : Kp [b] w wr) : At1 b g s w k u (some r) w1 := by
  obtain ⟨h1, h2, h3⟩ := HP
  refine ⟨h, hu, by simp only [left, Option.getD_some, List.length_cons] at hl ⊢; omega, g2, h1, ?_, hk.trans h3 (fun x hx => .inl hx)⟩
  rcases h2 with rfl | rfl
  · exact hg
  · exact .inr rfl
theorem big_bits (u : Nat) (h : u < 9223372036854775808) : 4611686018427387904 < bits .or .u64 (u : Int) (IntKind.u64.wrap (IntKind.u64.wrap (bits .and .u8 1 127) * 9223372036854775808)) := by
  have e : IntKind.u64.wrap (IntKind.u64.wrap (bits .and .u8 1 127) * 9223372036854775808) = ((9223372036854775808 : Nat) : Int) := by decide +kernel
  rw [e, bits_or_u64_nat _ _ (by omega) (by omega)]
  have : 9223372036854775808 ≤ u ||| 9223372036854775808 := Nat.right_le_or
  omega

set_option maxHeartbeats 8000000 in
set_option maxRecDepth 100000 in
theorem num_any (b : Nat) (g : Option Nat) (s : Option (List Int)) (w : World) (hR : Rdr w b g s) (hb : (left s).length ≤ 140737488351232) :
    Calls Try.prog 50 #[.pointer (some ⟨b, 0, none⟩)] w (RdrPost b g (.int .i64 ((stNum s).1 : Int)) (stNum s).2 w) := by
  have H0 : As (At1 b g s w 0 0 s w) := ⟨cont_zero s, by decide, hb, g, hR, .inl rfl, Kp.refl _ _⟩
  clear hR hb
  go_enter Try.func50, Try.ntmps50
  go_wp2
  go_loopw [3, 4] (fun u i wr => ∃ k u0 : Nat, i = .int .i64 (k : Int) ∧ u = .int .u64 (u0 : Int) ∧ k ≤ 9 ∧ (∃ s', At1 b g s w k u0 s' wr)) (fun _ i _ => 10 - (intOf i).toNat)
  case atStart => exact ⟨0, 0, rfl, rfl, by omega, _, H0.out⟩
  case round =>
    obtain ⟨k, u0, rfl, rfl, hk, s', hN, hU, hL, g1, R1, G1, K1⟩ := hrel
    have HWF : As (Wf (left s')) := ⟨by obtain ⟨_, _, _, _, _, _, _, _, _, h⟩ := R1; exact h⟩
    have HN := As.mk hN
    have HU := As.mk hU
    have HL := As.mk hL
    have HG1 := As.mk G1
    have HK1 := As.mk K1
    have HRW := As.mk (raw_any b g1 s' 1 wr R1 hL)
    clear hN hU hL R1 G1 K1
    rcases s' with _ | ⟨_ | ⟨c, r⟩⟩
    · go_wp2_with (go_at_call 75; refine HRW.out.mono ?_; rintro e w1 ⟨v, rfl, O2, g2, R2, G2, K2⟩; obtain ⟨A2, c2, hb2, _⟩ := id R2; have c21 := blk_cell hb2 1 rfl; have HP := As.mk (And.intro R2 (And.intro G2 K2)); clear O2 R2 G2 K2 hb2)
      go_ret
      exact fail_of HN.out HP.out HG1.out HK1.out
    · go_wp2_with (go_at_call 75; refine HRW.out.mono ?_; rintro e w1 ⟨v, rfl, O2, g2, R2, G2, K2⟩; obtain ⟨A2, c2, hb2, _⟩ := id R2; have c21 := blk_cell hb2 1 rfl; have HP := As.mk (And.intro R2 (And.intro G2 K2)); clear O2 R2 G2 K2 hb2)
      go_ret
      exact fail_of HN.out HP.out HG1.out HK1.out
    · have hc := HWF.out c (by simp [left])
      by_cases h9 : k = 9
      · subst h9
        have HF : As (stNum s = (0, none)) := ⟨by rw [HN.out]; exact cont_none (by rw [decF, if_pos (.inl (Nat.le_refl 9))])⟩
        have hcase : 127 < c ∨ (¬ 127 < c ∧ 1 < c) ∨ c = 0 ∨ c = 1 := by omega
        rcases hcase with h1 | ⟨h1, h2⟩ | rfl | rfl
        · go_wp2_with (first
            | (go_at_call 75; refine HRW.out.mono ?_; rw [stRaw_cons]; rintro e w1 ⟨v, rfl, O2, g2, R2, G2, K2⟩; obtain ⟨A2, c2, hb2, _⟩ := id R2; have c21 := blk_cell hb2 1 rfl; obtain ⟨gx, capx, rfl, _, _⟩ := own_form O2.1 (by simp); have dx := one_cell O2; have HP := As.mk (And.intro R2 (And.intro G2 K2)); clear O2 R2 G2 K2 hb2)
            | (go_at_call 76; refine (bad_any b g2 (some r) _ HP.out.1).mono ?_; rintro e w2 HB; obtain rfl := HB.1; have HB2 := As.mk HB; clear HB))
          go_ret
          exact fail_bad HF.out HP.out HG1.out HK1.out HB2.out
        · go_wp2_with (first
            | (go_at_call 75; refine HRW.out.mono ?_; rw [stRaw_cons]; rintro e w1 ⟨v, rfl, O2, g2, R2, G2, K2⟩; obtain ⟨A2, c2, hb2, _⟩ := id R2; have c21 := blk_cell hb2 1 rfl; obtain ⟨gx, capx, rfl, _, _⟩ := own_form O2.1 (by simp); have dx := one_cell O2; have HP := As.mk (And.intro R2 (And.intro G2 K2)); clear O2 R2 G2 K2 hb2)
            | (go_at_call 76; refine (bad_any b g2 (some r) _ HP.out.1).mono ?_; rintro e w2 HB; obtain rfl := HB.1; have HB2 := As.mk HB; clear HB))
          go_ret
          exact fail_bad HF.out HP.out HG1.out HK1.out HB2.out
        · go_wp2_with (first
            | (go_at_call 75; refine HRW.out.mono ?_; rw [stRaw_cons]; rintro e w1 ⟨v, rfl, O2, g2, R2, G2, K2⟩; obtain ⟨A2, c2, hb2, _⟩ := id R2; have c21 := blk_cell hb2 1 rfl; obtain ⟨gx, capx, rfl, _, _⟩ := own_form O2.1 (by simp); have dx := one_cell O2; have HP := As.mk (And.intro R2 (And.intro G2 K2)); clear O2 R2 G2 K2 hb2)
            | (go_at_call 76; refine (bad_any b g2 (some r) _ HP.out.1).mono ?_; rintro e w2 HB; obtain rfl := HB.1; have HB2 := As.mk HB; clear HB))
          go_ret
          exact fail_bad HF.out HP.out HG1.out HK1.out HB2.out
        · have hbig := big_bits u0 (by have h7 := HU.out; have h8 : (128 : Nat) ^ 9 = 9223372036854775808 := by decide
                                       omega)
          go_wp2_with (first
            | (go_at_call 75; refine HRW.out.mono ?_; rw [stRaw_cons]; rintro e w1 ⟨v, rfl, O2, g2, R2, G2, K2⟩; obtain ⟨A2, c2, hb2, _⟩ := id R2; have c21 := blk_cell hb2 1 rfl; obtain ⟨gx, capx, rfl, _, _⟩ := own_form O2.1 (by simp); have dx := one_cell O2; have HP := As.mk (And.intro R2 (And.intro G2 K2)); clear O2 R2 G2 K2 hb2)
            | (go_at_call 76; refine (bad_any b g2 (some r) _ HP.out.1).mono ?_; rintro e w2 HB; obtain rfl := HB.1; have HB2 := As.mk HB; clear HB))
          go_ret
          exact fail_bad HF.out HP.out HG1.out HK1.out HB2.out
      · have hk8 : k ≤ 8 := by omega
        have hlen : ¬ 9 ≤ k := by omega
        obtain ⟨u1, hu1⟩ : ∃ u1 : Nat, u1 = u0 + c.toNat % 128 * 128 ^ k := ⟨_, rfl⟩
        have hbit := num_bits u0 k c hc.1 hc.2 hk8 HU.out
        rw [← hu1] at hbit
        have HU1 := As.mk hu1
        have HD : As (decF k u0 (c :: r) = if 9 ≤ k ∨ (0 < k ∧ c = 0) then none else if c < 128 then (if 4611686018427387904 < u0 + c.toNat * 128 ^ k then none else some (u0 + c.toNat * 128 ^ k, r)) else decF (k + 1) (u0 + (c.toNat - 128) * 128 ^ k) r) := ⟨by rw [decF]⟩
        clear hu1
        by_cases h127 : 127 < c
        · have HF : As (stNum s = cont (k + 1) u1 (some r)) := by
            constructor
            have e1 : c.toNat % 128 = c.toNat - 128 := by omega
            rw [HN.out]
            exact cont_step (by rw [HD.out, if_neg (by omega), if_neg (by omega), HU1.out, e1])
          have HB1 : As (u1 < 128 ^ (k + 1)) := by
            constructor
            rw [HU1.out, Nat.pow_succ]
            have h1 : c.toNat % 128 * 128 ^ k ≤ 127 * 128 ^ k := Nat.mul_le_mul_right _ (by omega)
            have h2 := HU.out
            omega
          go_wp2_with (first
            | (go_at_call 75; refine HRW.out.mono ?_; rw [stRaw_cons]; rintro e w1 ⟨v, rfl, O2, g2, R2, G2, K2⟩; obtain ⟨A2, c2, hb2, _⟩ := id R2; have c21 := blk_cell hb2 1 rfl; obtain ⟨gx, capx, rfl, _, _⟩ := own_form O2.1 (by simp); have dx := one_cell O2; have HP := As.mk (And.intro R2 (And.intro G2 K2)); clear O2 R2 G2 K2 hb2)
            | (go_at_call 76; refine (bad_any b g2 (some r) _ HP.out.1).mono ?_; rintro e w2 HB; obtain rfl := HB.1; have HB2 := As.mk HB; clear HB))
          go_roundw
          case rel => exact ⟨k + 1, u1, by go_num, rfl, by omega, _, next_of HF.out HB1.out HL.out HP.out HG1.out HK1.out⟩
          case measure => simp [intOf]; omega
        · have HE : As (u0 + c.toNat * 128 ^ k = u1) := by
            constructor
            have e1 : c.toNat % 128 = c.toNat := by omega
            rw [HU1.out, e1]
          by_cases h0 : 0 < k ∧ c = 0
          · obtain ⟨h0k, rfl⟩ := h0
            have HF : As (stNum s = (0, none)) := ⟨by rw [HN.out]; exact cont_none (by rw [HD.out, if_pos (.inr ⟨h0k, rfl⟩)])⟩
            go_wp2_with (first
            | (go_at_call 75; refine HRW.out.mono ?_; rw [stRaw_cons]; rintro e w1 ⟨v, rfl, O2, g2, R2, G2, K2⟩; obtain ⟨A2, c2, hb2, _⟩ := id R2; have c21 := blk_cell hb2 1 rfl; obtain ⟨gx, capx, rfl, _, _⟩ := own_form O2.1 (by simp); have dx := one_cell O2; have HP := As.mk (And.intro R2 (And.intro G2 K2)); clear O2 R2 G2 K2 hb2)
            | (go_at_call 76; refine (bad_any b g2 (some r) _ HP.out.1).mono ?_; rintro e w2 HB; obtain rfl := HB.1; have HB2 := As.mk HB; clear HB))
            go_ret
            exact fail_bad HF.out HP.out HG1.out HK1.out HB2.out
          · have hcase : ¬ 0 < k ∨ (0 < k ∧ (c == 0) = false) := by
              by_cases hk0 : 0 < k
              · exact .inr ⟨hk0, by rw [beq_eq_false_iff_ne]; omega⟩
              · exact .inl hk0
            have HN0 : As (¬ (9 ≤ k ∨ (0 < k ∧ c = 0))) := ⟨by omega⟩
            clear h0
            by_cases hbig : 4611686018427387904 < u1
            · have HF : As (stNum s = (0, none)) := ⟨by rw [HN.out]; exact cont_none (by rw [HD.out, if_neg HN0.out, if_pos (by omega), HE.out, if_pos hbig])⟩
              obtain g2' | ⟨g2', g3'⟩ := hcase
              all_goals
                go_wp2_with (first
            | (go_at_call 75; refine HRW.out.mono ?_; rw [stRaw_cons]; rintro e w1 ⟨v, rfl, O2, g2, R2, G2, K2⟩; obtain ⟨A2, c2, hb2, _⟩ := id R2; have c21 := blk_cell hb2 1 rfl; obtain ⟨gx, capx, rfl, _, _⟩ := own_form O2.1 (by simp); have dx := one_cell O2; have HP := As.mk (And.intro R2 (And.intro G2 K2)); clear O2 R2 G2 K2 hb2)
            | (go_at_call 76; refine (bad_any b g2 (some r) _ HP.out.1).mono ?_; rintro e w2 HB; obtain rfl := HB.1; have HB2 := As.mk HB; clear HB))
                go_ret
                exact fail_bad HF.out HP.out HG1.out HK1.out HB2.out
            · have HF : As (stNum s = (u1, some r)) := ⟨by rw [HN.out]; exact cont_some (by rw [HD.out, if_neg HN0.out, if_pos (by omega), HE.out, if_neg hbig])⟩
              obtain g2' | ⟨g2', g3'⟩ := hcase
              all_goals
                go_wp2_with (first
            | (go_at_call 75; refine HRW.out.mono ?_; rw [stRaw_cons]; rintro e w1 ⟨v, rfl, O2, g2, R2, G2, K2⟩; obtain ⟨A2, c2, hb2, _⟩ := id R2; have c21 := blk_cell hb2 1 rfl; obtain ⟨gx, capx, rfl, _, _⟩ := own_form O2.1 (by simp); have dx := one_cell O2; have HP := As.mk (And.intro R2 (And.intro G2 K2)); clear O2 R2 G2 K2 hb2)
            | (go_at_call 76; refine (bad_any b g2 (some r) _ HP.out.1).mono ?_; rintro e w2 HB; obtain rfl := HB.1; have HB2 := As.mk HB; clear HB))
                go_ret
                exact ok_of HF.out HP.out HG1.out HK1.out


theorem num_suffix_left {s : Option (List Int)} {m : Nat} (h : (left s).length ≤ m) : (left (stNum s).2).length ≤ m := left_le h
theorem raw_of_none (n : Int) : stRaw n none = ([], none) := rfl

end Go.Proofs.Ytiabdeciadfiiaa.refr

/- The document's Reader over nothing: its first number is missing, wherever the empty slice points. -/
namespace Go.Proofs.Ytiabdeciadfiiaa.refr
open Go.RowKit H O

/-- A Reader over an empty slice. -/
def Emp (w : World) (b : Nat) (A : Option Addr) (c : Nat) : Prop := w.heap[b]? = some (.cells #[.slice A 0 c, .bool false] 94 (0, 0))
theorem Emp.kp {S : List Nat} {w w1 : World} {b : Nat} {A : Option Addr} {c : Nat} (h : Emp w b A c) (k : Kp S w w1) (hb : b ∉ S) : Emp w1 b A c := k.blk h hb
def EmpPost (b : Nat) (v : Value) (w : World) (e : Ending) (w' : World) : Prop := e = .returned v ∧ Rdr w' b none none ∧ Kp [b] w w'
theorem bad_empty {w : World} {b : Nat} {A : Option Addr} {c : Nat} (h : Emp w b A c) : Calls Try.prog 76 #[.pointer (some ⟨b, 0, none⟩)] w (EmpPost b (.tuple #[]) w) := by
  have c0 := blk_cell h 0 rfl
  have c1 := blk_cell h 1 rfl
  have f0 := blk_free h 0
  have f1 := blk_free h 1
  have HB : As (EmpPost b (.tuple #[]) w (.returned (.tuple #[])) ((w.setCell ⟨b, 1, none⟩ (.bool true)).setCell ⟨b, 0, none⟩ (.slice none 0 0))) := ⟨by
    have e1 : (w.setCell ⟨b, 1, none⟩ (.bool true)).heap[b]? = some (.cells #[.slice A 0 c, .bool true] 94 (0, 0)) := heap_setCell_same w b 1 _ _ (.bool true) h
    have e2 : ((w.setCell ⟨b, 1, none⟩ (.bool true)).setCell ⟨b, 0, none⟩ (.slice none 0 0)).heap[b]? = some (.cells #[.slice none 0 0, .bool true] 94 (0, 0)) := heap_setCell_same _ b 0 _ _ (.slice none 0 0) e1
    exact ⟨rfl, ⟨none, 0, e2, rfl, Rd.nil _ _, by simp [left], by omega, fun _ => rfl, by simp, Wf.nil⟩, ((Kp.refl _ w).setCell (.inl (by simp)) _).setCell (.inl (by simp)) _⟩⟩
  clear h
  go_enter Try.func76, Try.ntmps76
  go_wp2
  go_end0
  exact HB.out
set_option maxHeartbeats 1000000 in
theorem raw_empty {w : World} {b : Nat} {A : Option Addr} {c : Nat} (h : Emp w b A c) : Calls Try.prog 75 #[.pointer (some ⟨b, 0, none⟩), .int .i64 1] w (EmpPost b (.slice none 0 0) w) := by
  have c0 := blk_cell h 0 rfl
  have c1 := blk_cell h 1 rfl
  have HBAD := As.mk (bad_empty h)
  clear h
  go_enter Try.func75, Try.ntmps75
  go_wp2_with (go_at_call 76; refine HBAD.out.mono ?_; rintro e w1 ⟨rfl, R1, K1⟩; obtain ⟨A2, c2, hb2, _⟩ := id R1; have c21 := blk_cell hb2 1 rfl; have HP := As.mk (And.intro R1 K1); clear R1 K1 hb2 HBAD)
  go_ret
  exact ⟨rfl, HP.out⟩
set_option maxHeartbeats 1000000 in
theorem num_empty {w : World} {b : Nat} {A : Option Addr} {c : Nat} (h : Emp w b A c) : Calls Try.prog 50 #[.pointer (some ⟨b, 0, none⟩)] w (EmpPost b (.int .i64 0) w) := by
  have HRW := As.mk (raw_empty h)
  clear h
  go_enter Try.func50, Try.ntmps50
  go_wp2
  go_loopw [3, 4] (fun u i wr => i = .int .i64 0 ∧ u = .int .u64 0 ∧ As (wr = w)) (fun _ i _ => 0)
  case atStart => exact ⟨rfl, rfl, ⟨rfl⟩⟩
  case round =>
    obtain ⟨rfl, rfl, ⟨rfl⟩⟩ := hrel
    go_wp2_with (go_at_call 75; refine HRW.out.mono ?_; rintro e w1 ⟨rfl, R1, K1⟩; obtain ⟨A2, c2, hb2, _⟩ := id R1; have c21 := blk_cell hb2 1 rfl; have HP := As.mk (And.intro R1 K1); clear R1 K1 hb2 HRW)
    go_ret
    exact ⟨rfl, HP.out⟩
end Go.Proofs.Ytiabdeciadfiiaa.refr

/- append onto a row of bytes, at a step of a region that draws its order. -/
namespace Go.Proofs.Ytiabdeciadfiiaa.clone
open Go.RowKit H

/-- append onto a row of bytes, at a step of a region that draws its order -/
theorem step8 {w : World} {ops : Array Oper} {o : Oper} {a : Act} {K : Act → World → Prop} {Q : Exit → Act → World → Prop} {E : Prop} (hgd : o.guard = none) (s x : Operand)
    (ho : o.op = .call { callee := .builtin .append, args := #[s, x], argTypes := #[26, 26] })
    (v : Value) (n : Nat) (xs : List Value) (hs : a.eval s = v) (hown : w.ownsRow 0 5 1 v n xs)
    (A : Option Addr) (m c : Nat) (news : List Value) (hx : a.eval x = .slice A m c) (hl : news.length = m) (hrd : Rd w A news) (hnil : A = none → c = 0) (h1 : ∀ u ∈ news, u.oneCell' = true)
    (hm : n + m ≤ 140737488355328)
    (h : ∀ v' w', w'.ownsRow 0 5 1 v' (n + m) (xs ++ news) → Kp v.ownBlock.toList w w' → At w.heap.size v.ownBlock v'.ownBlock → K (a.put o.dst v') w') :
    if Region.wanted o (yielded ops a.tmps) = true then Oper.wp Try.prog o a w K Q else E := by
  have hw : Region.wanted o (yielded ops a.tmps) = true := by simp [Region.wanted, hgd]
  rw [if_pos hw]
  obtain ⟨v', w', hr, h2, h3, h4, h5⟩ := run_app (P := Try.prog) w 26 o.type 5 (.int .u8 0) 1 1 Try.underlying26 info_u8 rfl (by decide) v n xs hown A m c news (by rw [hl, Nat.mul_one]) hrd hnil h1 (by rw [Nat.mul_one]; exact hm) hm
  unfold Oper.wp execOp
  simp only [ho, resolve, invoke, builtin, Sem.run_bind, Sem.run_pure, Result.andThen_ok, List.map_toArray, List.map_cons, List.map_nil, hs, hx, hr]
  exact h v' w' h2 h3 h4
end Go.Proofs.Ytiabdeciadfiiaa.clone

/- haystacklaw21.same answers whether two rows of bytes are one. -/
namespace Go.Proofs.Ytiabdeciadfiiaa.haystacklaw21
open Go.RowKit H

theorem ret_bool {a b : Bool} (h : a = b) : Ending.returned (.bool a) = .returned (.bool b) := by rw [h]

theorem take_eq_step {xs ys : List Int} {k : Nat} (h : xs.take k = ys.take k) (hx : k < xs.length) (hy : k < ys.length) (he : xs[k] = ys[k]) : xs.take (k + 1) = ys.take (k + 1) := by
  rw [List.take_succ_eq_append_getElem hx, List.take_succ_eq_append_getElem hy, h, he]

set_option maxHeartbeats 1000000 in
theorem same_any (A0 A1 : Option Addr) (n0 c0 n1 c1 : Nat) (xs ys : List Int) (w : World) (l0 : xs.length = n0) (l1 : ys.length = n1) (h0 : Rd w A0 (iv .u8 xs)) (h1 : Rd w A1 (iv .u8 ys)) (hm : xs.length ≤ 9223372036854775807) :
    Calls Try.prog 11 #[.slice A0 n0 c0, .slice A1 n1 c1] w fun e w' => e = .returned (.bool (decide (xs = ys))) ∧ ∃ n, w' = w.drewN n := by
  subst l0 l1
  have H0 := As.mk h0
  have H1 := As.mk h1
  clear h0 h1
  by_cases hl : xs.length = ys.length
  · have b1 : ((xs.length : Int) != (ys.length : Int)) = false := by simp [hl]
    have HL := As.mk hl
    clear hl
    go_enter Try.func11, Try.ntmps11
    go_wp2
    go_loopw [5] (fun i wr => ∃ k : Nat, i = .int .i64 k ∧ k ≤ xs.length ∧ As (xs.take k = ys.take k) ∧ ∃ n, wr = w.drewN n) (fun i _ => xs.length - (intOf i).toNat)
    case atStart => exact ⟨0, rfl, by omega, ⟨rfl⟩, 0, rfl⟩
    case round =>
      obtain ⟨k, rfl, hk, HT, n, rfl⟩ := hrel
      by_cases hlt : k < xs.length
      · have hlt2 : k < ys.length := by have := HL.out; omega
        obtain ⟨a0, rfl, d0⟩ := H0.out.int k hlt
        obtain ⟨a1, rfl, d1⟩ := H1.out.int k hlt2
        by_cases he : xs[k] = ys[k]
        · have e1 : (xs[k] != ys[k]) = false := by simp [he]
          have HE := As.mk he
          clear he
          go_wp2
          go_quiet (fail)
          go_wp2
          go_roundw
          case rel => exact ⟨k + 1, by go_num, by omega, ⟨take_eq_step HT.out hlt hlt2 HE.out⟩, _, rfl⟩
          case measure => simp [intOf]; omega
        · have e1 : (xs[k] != ys[k]) = true := by simp [he]
          have HE := As.mk he
          clear he
          go_wp2
          go_quiet (fail)
          go_wp2
          go_ret
          exact ⟨ret_bool (by symm; rw [decide_eq_false_iff_not]; intro e; subst e; exact HE.out rfl), by first | exact ⟨_, rfl⟩ | exact ⟨_, World.drewN_drewN ..⟩⟩
      · go_wp2
        go_ret
        exact ⟨ret_bool (by
          symm
          rw [decide_eq_true_eq]
          have e := HT.out
          have := HL.out
          rwa [List.take_of_length_le (by omega), List.take_of_length_le (by omega)] at e), _, rfl⟩
  · have b1 : ((xs.length : Int) != (ys.length : Int)) = true := by simp; omega
    have HL := As.mk hl
    clear hl
    go_enter Try.func11, Try.ntmps11
    go_wp2
    go_ret
    exact ⟨ret_bool (by symm; rw [decide_eq_false_iff_not]; intro e; subst e; exact HL.out rfl), 0, rfl⟩

end Go.Proofs.Ytiabdeciadfiiaa.haystacklaw21

/- haystacklaw21's helpers: roomy, stands, spoil. -/
namespace Go.Proofs.Ytiabdeciadfiiaa.haystacklaw21
open Go.RowKit H

theorem info_u8 : (Try.prog.info? 5).map (fun i => (i.zero, i.size, i.bytes)) = some (some (.int .u8 0), 1, 1) := by kernel_rfl

set_option maxHeartbeats 2000000 in
theorem roomy_any (A : Option Addr) (n c : Nat) (xs : List Int) (w : World) (hn : xs.length = n) (h0 : Rd w A (iv .u8 xs)) (hnil : A = none → c = 0) (hb : xs.length ≤ 140737488351232) :
    Calls Try.prog 17 #[.slice A n c] w (RetOwn 5 .u8 w (xs ++ [171])) := by
  subst hn
  have H0 := As.mk h0
  have HN := As.mk hnil
  clear h0 hnil
  go_enter Try.func17, Try.ntmps17
  go_wp2_with (first
    | (at_builtin; refine wpList_app rfl (.tmp 3) (.tmp 4) 26 rfl 5 (.int .u8 0) 1 1 Try.underlying26 info_u8 rfl (by decide) (.slice (some ⟨w.heap.size, 0, none⟩) 0 0) 0 [] rfl (own_new w [] _ (Nat.zero_le _)) A xs.length c (iv .u8 xs) rfl (by simp [iv]) (((Kp.refl [] w).alloc _).rd_new H0.out (by simp)) HN.out (iv_one _ _) (by omega) (by omega) ?_; intro v1 w1 o1 k1 a1 _; have O1 : As (w1.ownsRow 0 5 1 v1 xs.length (iv .u8 xs)) := ⟨by simpa using o1⟩; have K1 := As.mk k1; have A1 := As.mk a1; clear o1 k1 a1)
    | (at_builtin; refine wpList_app rfl (.tmp 5) (.tmp 6) 26 rfl 5 (.int .u8 0) 1 1 Try.underlying26 info_u8 rfl (by decide) v1 xs.length (iv .u8 xs) rfl (O1.out.alloc _) (some ⟨w1.heap.size, 0, none⟩) 1 1 [.int .u8 171] rfl rfl (rd_one _ _ _) (by simp) (by simp [Value.oneCell']) (by omega) (by omega) ?_; intro v2 w2 o2 k2 a2 _; have O2 := As.mk o2; have K2 := As.mk k2; have A2 := As.mk a2; clear o2 k2 a2)
    | (at_builtin; refine wpList_app rfl (.tmp 7) (.tmp 8) 26 rfl 5 (.int .u8 0) 1 1 Try.underlying26 info_u8 rfl (by decide) v2 (xs.length + 1) (iv .u8 xs ++ [.int .u8 171]) rfl (O2.out.alloc _) (some ⟨w2.heap.size, 0, none⟩) 1 1 [.int .u8 171] rfl rfl (rd_one _ _ _) (by simp) (by simp [Value.oneCell']) (by omega) (by omega) ?_; intro v3 w3 o3 k3 a3 _; obtain ⟨g, cap, rfl, hc1, hc2⟩ := own_form o3 (by omega); have O3 := As.mk o3; have K3 := As.mk k3; have A3 := As.mk a3; clear o3 k3 a3))
  go_ret
  have HK1 : Kp [] w w1 := ((Kp.refl [] w).alloc _).trans K1.out (by simp [Value.ownBlock])
  have lo1 : ∀ k, v1.ownBlock = some k → w.heap.size ≤ k := A1.out.ge (by simp) (by simp [Value.ownBlock])
  have HK2 : Kp [] w w2 := (HK1.alloc _).row K2.out (fun x hx => .inr (lo1 x hx))
  have lo2 : ∀ k, v2.ownBlock = some k → w.heap.size ≤ k := A2.out.ge (by have := HK1.size; simp; omega) lo1
  have HK3 : Kp [] w w3 := (HK2.alloc _).row K3.out (fun x hx => .inr (lo2 x hx))
  have lo3 := A3.out.ge (by have := HK2.size; simp; omega) lo2
  have e : (iv .u8 xs ++ [Value.int .u8 171] ++ [Value.int .u8 171]).take (xs.length + 1) = iv .u8 (xs ++ [171]) := by
    rw [List.take_left' (by simp [iv])]
    simp [iv]
  have O := own_take O3.out rfl (m := xs.length + 1) (by omega)
  rw [e] at O
  exact ⟨_, rfl, ⟨by simpa using O, lo3⟩, HK3⟩


theorem stands_split {zs ys : List Int} (hl : zs.length = ys.length + 1) (he : zs.take ys.length = ys) : zs = ys ++ [zs[ys.length]] := by
  have := (List.take_succ_eq_append_getElem (l := zs) (i := ys.length) (by omega)).symm
  rw [he, List.take_of_length_le (by omega)] at this
  exact this.symm

set_option maxHeartbeats 2000000 in
theorem stands_any (A0 A1 : Option Addr) (n0 c0 n1 c1 : Nat) (zs ys : List Int) (w : World) (l0 : zs.length = n0) (l1 : ys.length = n1) (h0 : Rd w A0 (iv .u8 zs)) (h1 : Rd w A1 (iv .u8 ys))
    (hc : n0 ≤ c0) (hm : zs.length ≤ 4611686018427387904) (hm1 : ys.length ≤ 4611686018427387904) :
    Calls Try.prog 21 #[.slice A0 n0 c0, .slice A1 n1 c1] w fun e w' => e = .returned (.bool (decide (zs = ys ++ [171]))) ∧ ∃ n, w' = w.drewN n := by
  subst l0 l1
  have H0 := As.mk h0
  have H1 := As.mk h1
  clear h0 h1
  by_cases hl : zs.length = ys.length + 1
  · have b1 : ((zs.length : Int) == (ys.length : Int) + 1) = true := by rw [beq_iff_eq]; omega
    have hlt : ys.length < zs.length := by omega
    obtain ⟨a0, rfl, d0⟩ := H0.out.int ys.length hlt
    have HL := As.mk hl
    clear hl
    have HS := As.mk (same_any (some a0) A1 ys.length c0 ys.length c1 (zs.take ys.length) ys w (by rw [List.length_take]; omega) rfl (by rw [← iv_take]; exact H0.out.take _) H1.out (by rw [List.length_take]; omega))
    by_cases he : zs.take ys.length = ys
    · by_cases hz : zs[ys.length] = 171
      · have b3 : (zs[ys.length] == 171) = true := by simpa using hz
        have e : decide (zs = ys ++ [171]) = true := by rw [decide_eq_true_eq, stands_split HL.out he, hz]
        have HE := As.mk he
        have HZ := As.mk hz
        have HR := As.mk e
        clear he hz e
        go_enter Try.func21, Try.ntmps21
        go_wp2_with (go_at_call 11; refine HS.out.mono ?_; rintro e w' ⟨rfl, n, rfl⟩; rw [decide_eq_true HE.out])
        go_ret
        exact ⟨ret_bool HR.out.symm, _, rfl⟩
      · have b3 : (zs[ys.length] == 171) = false := by simpa using hz
        have e : decide (zs = ys ++ [171]) = false := by
          rw [decide_eq_false_iff_not, stands_split HL.out he]
          intro h
          exact hz (by simpa using h)
        have HE := As.mk he
        have HZ := As.mk hz
        have HR := As.mk e
        clear he hz e
        go_enter Try.func21, Try.ntmps21
        go_wp2_with (go_at_call 11; refine HS.out.mono ?_; rintro e w' ⟨rfl, n, rfl⟩; rw [decide_eq_true HE.out])
        go_ret
        exact ⟨ret_bool HR.out.symm, _, rfl⟩
    · have e : decide (zs = ys ++ [171]) = false := by
        rw [decide_eq_false_iff_not]
        rintro rfl
        exact he (by simp)
      have HE := As.mk he
      have HR := As.mk e
      clear he e
      go_enter Try.func21, Try.ntmps21
      go_wp2_with (go_at_call 11; refine HS.out.mono ?_; rintro e w' ⟨rfl, n, rfl⟩; rw [decide_eq_false HE.out])
      go_ret
      exact ⟨ret_bool HR.out.symm, _, rfl⟩
  · have b1 : ((zs.length : Int) == (ys.length : Int) + 1) = false := by rw [beq_eq_false_iff_ne]; omega
    have e : decide (zs = ys ++ [171]) = false := by
      rw [decide_eq_false_iff_not]
      rintro rfl
      exact hl (by simp)
    have HL := As.mk hl
    have HR := As.mk e
    clear hl e
    go_enter Try.func21, Try.ntmps21
    go_wp2
    go_ret
    exact ⟨ret_bool HR.out.symm, 0, rfl⟩


end Go.Proofs.Ytiabdeciadfiiaa.haystacklaw21

/- haystacklaw21.ints answers whether two rows of numbers are one. -/
namespace Go.Proofs.Ytiabdeciadfiiaa.haystacklaw21
open Go.RowKit H

set_option maxHeartbeats 1000000 in
theorem ints_any (A0 A1 : Option Addr) (n0 c0 n1 c1 : Nat) (xs ys : List Int) (w : World) (l0 : xs.length = n0) (l1 : ys.length = n1) (h0 : Rd w A0 (iv .i64 xs)) (h1 : Rd w A1 (iv .i64 ys)) (hm : xs.length ≤ 9223372036854775807) :
    Calls Try.prog 15 #[.slice A0 n0 c0, .slice A1 n1 c1] w fun e w' => e = .returned (.bool (decide (xs = ys))) ∧ ∃ n, w' = w.drewN n := by
  subst l0 l1
  have H0 := As.mk h0
  have H1 := As.mk h1
  clear h0 h1
  by_cases hl : xs.length = ys.length
  · have b1 : ((xs.length : Int) != (ys.length : Int)) = false := by simp [hl]
    have HL := As.mk hl
    clear hl
    go_enter Try.func15, Try.ntmps15
    go_wp2
    go_loopw [5] (fun i wr => ∃ k : Nat, i = .int .i64 k ∧ k ≤ xs.length ∧ As (xs.take k = ys.take k) ∧ ∃ n, wr = w.drewN n) (fun i _ => xs.length - (intOf i).toNat)
    case atStart => exact ⟨0, rfl, by omega, ⟨rfl⟩, 0, rfl⟩
    case round =>
      obtain ⟨k, rfl, hk, HT, n, rfl⟩ := hrel
      by_cases hlt : k < xs.length
      · have hlt2 : k < ys.length := by have := HL.out; omega
        obtain ⟨a0, rfl, d0⟩ := H0.out.int k hlt
        obtain ⟨a1, rfl, d1⟩ := H1.out.int k hlt2
        by_cases he : xs[k] = ys[k]
        · have e1 : (xs[k] != ys[k]) = false := by simp [he]
          have HE := As.mk he
          clear he
          go_wp2
          go_quiet (fail)
          go_wp2
          go_roundw
          case rel => exact ⟨k + 1, by go_num, by omega, ⟨take_eq_step HT.out hlt hlt2 HE.out⟩, _, rfl⟩
          case measure => simp [intOf]; omega
        · have e1 : (xs[k] != ys[k]) = true := by simp [he]
          have HE := As.mk he
          clear he
          go_wp2
          go_quiet (fail)
          go_wp2
          go_ret
          exact ⟨ret_bool (by symm; rw [decide_eq_false_iff_not]; intro e; subst e; exact HE.out rfl), by first | exact ⟨_, rfl⟩ | exact ⟨_, World.drewN_drewN ..⟩⟩
      · go_wp2
        go_ret
        exact ⟨ret_bool (by
          symm
          rw [decide_eq_true_eq]
          have e := HT.out
          have := HL.out
          rwa [List.take_of_length_le (by omega), List.take_of_length_le (by omega)] at e), _, rfl⟩
  · have b1 : ((xs.length : Int) != (ys.length : Int)) = true := by simp; omega
    have HL := As.mk hl
    clear hl
    go_enter Try.func15, Try.ntmps15
    go_wp2
    go_ret
    exact ⟨ret_bool (by symm; rw [decide_eq_false_iff_not]; intro e; subst e; exact HL.out rfl), 0, rfl⟩

end Go.Proofs.Ytiabdeciadfiiaa.haystacklaw21

/- haystacklaw22.same answers whether two rows of bytes are one. -/
namespace Go.Proofs.Ytiabdeciadfiiaa.haystacklaw22
open Go.RowKit H

theorem ret_bool {a b : Bool} (h : a = b) : Ending.returned (.bool a) = .returned (.bool b) := by rw [h]

theorem take_eq_step {xs ys : List Int} {k : Nat} (h : xs.take k = ys.take k) (hx : k < xs.length) (hy : k < ys.length) (he : xs[k] = ys[k]) : xs.take (k + 1) = ys.take (k + 1) := by
  rw [List.take_succ_eq_append_getElem hx, List.take_succ_eq_append_getElem hy, h, he]

set_option maxHeartbeats 1000000 in
theorem same_any (A0 A1 : Option Addr) (n0 c0 n1 c1 : Nat) (xs ys : List Int) (w : World) (l0 : xs.length = n0) (l1 : ys.length = n1) (h0 : Rd w A0 (iv .u8 xs)) (h1 : Rd w A1 (iv .u8 ys)) (hm : xs.length ≤ 9223372036854775807) :
    Calls Try.prog 64 #[.slice A0 n0 c0, .slice A1 n1 c1] w fun e w' => e = .returned (.bool (decide (xs = ys))) ∧ ∃ n, w' = w.drewN n := by
  subst l0 l1
  have H0 := As.mk h0
  have H1 := As.mk h1
  clear h0 h1
  by_cases hl : xs.length = ys.length
  · have b1 : ((xs.length : Int) != (ys.length : Int)) = false := by simp [hl]
    have HL := As.mk hl
    clear hl
    go_enter Try.func64, Try.ntmps64
    go_wp2
    go_loopw [5] (fun i wr => ∃ k : Nat, i = .int .i64 k ∧ k ≤ xs.length ∧ As (xs.take k = ys.take k) ∧ ∃ n, wr = w.drewN n) (fun i _ => xs.length - (intOf i).toNat)
    case atStart => exact ⟨0, rfl, by omega, ⟨rfl⟩, 0, rfl⟩
    case round =>
      obtain ⟨k, rfl, hk, HT, n, rfl⟩ := hrel
      by_cases hlt : k < xs.length
      · have hlt2 : k < ys.length := by have := HL.out; omega
        obtain ⟨a0, rfl, d0⟩ := H0.out.int k hlt
        obtain ⟨a1, rfl, d1⟩ := H1.out.int k hlt2
        by_cases he : xs[k] = ys[k]
        · have e1 : (xs[k] != ys[k]) = false := by simp [he]
          have HE := As.mk he
          clear he
          go_wp2
          go_quiet (fail)
          go_wp2
          go_roundw
          case rel => exact ⟨k + 1, by go_num, by omega, ⟨take_eq_step HT.out hlt hlt2 HE.out⟩, _, rfl⟩
          case measure => simp [intOf]; omega
        · have e1 : (xs[k] != ys[k]) = true := by simp [he]
          have HE := As.mk he
          clear he
          go_wp2
          go_quiet (fail)
          go_wp2
          go_ret
          exact ⟨ret_bool (by symm; rw [decide_eq_false_iff_not]; intro e; subst e; exact HE.out rfl), by first | exact ⟨_, rfl⟩ | exact ⟨_, World.drewN_drewN ..⟩⟩
      · go_wp2
        go_ret
        exact ⟨ret_bool (by
          symm
          rw [decide_eq_true_eq]
          have e := HT.out
          have := HL.out
          rwa [List.take_of_length_le (by omega), List.take_of_length_le (by omega)] at e), _, rfl⟩
  · have b1 : ((xs.length : Int) != (ys.length : Int)) = true := by simp; omega
    have HL := As.mk hl
    clear hl
    go_enter Try.func64, Try.ntmps64
    go_wp2
    go_ret
    exact ⟨ret_bool (by symm; rw [decide_eq_false_iff_not]; intro e; subst e; exact HL.out rfl), 0, rfl⟩

end Go.Proofs.Ytiabdeciadfiiaa.haystacklaw22
