/- Numbers, and rows of numbers, that are read by a Reader of reader: where a round stands. -/
import Derived.Test.YtiabdeciadfiiaaManP
import Derived.Test.YtiabdeciadfiiaaGrid
import Derived.Test.YtiabdeciadfiiaaBase
namespace Go.Proofs.Ytiabdeciadfiiaa.reader
open Go.RowKit H O opk

/-- Behind a call that reads numbers: they lie in a new row. -/
def NodesPost (b : Nat) (g : Option Nat) (xs : List Int) (s : Option (List Int)) (w : World) (e : Ending) (w' : World) : Prop :=
  ∃ v, e = .returned v ∧ Own 3 .i64 w' w.heap.size v xs ∧ ∃ g', Rdr w' b g' s ∧ (g' = g ∨ g' = none) ∧ Kp [b] w w'
def ShardsPost (b : Nat) (g : Option Nat) (l : List (List Int)) (s : Option (List Int)) (w : World) (e : Ending) (w' : World) : Prop :=
  ∃ v, e = .returned v ∧ OwnL [b] w' w.heap.size v l ∧ ∃ g', Rdr w' b g' s ∧ (g' = g ∨ g' = none) ∧ Kp [b] w w'
/-- numbers so far -/
structure NR (w : World) (b : Nat) (g : Option Nat) (v : Value) (k : Nat) (xs : List Int) (s : Option (List Int)) (wr : World) : Prop where
  kp : Kp [b] w wr
  own : wr.ownsRow 0 3 1 v k (iv .i64 xs)
  lo : ∀ y, v.ownBlock = some y → w.heap.size ≤ y
  rdr : ∃ g', Rdr wr b g' s ∧ (g' = g ∨ g' = none)
  gb : (∀ y, g = some y → y < w.heap.size) ∧ b < w.heap.size
theorem NR.start {w w1 : World} {b : Nat} {g g1 : Option Nat} {s : Option (List Int)} (hb : b < w.heap.size) (hg : ∀ y, g = some y → y < w.heap.size) (R : Rdr w1 b g1 s) (G : g1 = g ∨ g1 = none) (k : Kp [b] w w1) : NR w b g (.slice none 0 0) 0 [] s w1 :=
  ⟨k, World.ownsRow_nil _ 0 _ 1, by simp [Value.ownBlock], ⟨g1, R, G⟩, hg, hb⟩
theorem NR.num {w wr : World} {b : Nat} {g : Option Nat} {v : Value} {k : Nat} {xs : List Int} {s : Option (List Int)} (h : NR w b g v k xs s wr) (hl : (left s).length ≤ 140737488351232) :
    Calls Try.prog 47 #[.pointer (some ⟨b, 0, none⟩)] wr fun e w5 => e = .returned (.int .i64 ((stNum s).1 : Int)) ∧ NR w b g v k xs (stNum s).2 w5 := by
  obtain ⟨g1, R, G⟩ := h.rdr
  refine (num_any b g1 s wr R hl).mono ?_
  rintro e w5 ⟨rfl, g5, R5, G5, K5⟩
  have hb := h.gb.2
  refine ⟨rfl, h.kp.trans K5 (fun x hx => .inl hx), K5.own h.own (fun y hy hm => ?_), h.lo, ⟨g5, R5, ?_⟩, h.gb⟩
  · have := h.lo y hy
    simp at hm
    omega
  · rcases G5 with rfl | rfl
    · exact G
    · exact .inr rfl
theorem NR.bad {w wr : World} {b : Nat} {g : Option Nat} {v : Value} {k : Nat} {xs : List Int} {s : Option (List Int)} (h : NR w b g v k xs s wr) :
    Calls Try.prog 73 #[.pointer (some ⟨b, 0, none⟩)] wr fun e w5 => e = .returned (.tuple #[]) ∧ NR w b g v k xs none w5 := by
  obtain ⟨g1, R, G⟩ := h.rdr
  refine (bad_any b g1 s wr R).mono ?_
  rintro e w5 ⟨rfl, g5, R5, G5, K5⟩
  have hb := h.gb.2
  refine ⟨rfl, h.kp.trans K5 (fun x hx => .inl hx), K5.own h.own (fun y hy hm => ?_), h.lo, ⟨g5, R5, ?_⟩, h.gb⟩
  · have := h.lo y hy
    simp at hm
    omega
  · rcases G5 with rfl | rfl
    · exact G
    · exact .inr rfl
theorem NR.put {w wr w2 : World} {b : Nat} {g : Option Nat} {v v' : Value} {k : Nat} {xs : List Int} {s : Option (List Int)} {y : Int} (h : NR w b g v k xs s wr) (o : w2.ownsRow 0 3 1 v' (k + 1) (iv .i64 xs ++ [.int .i64 y]))
    (kk : Kp v.ownBlock.toList (wr.alloc (.cells #[.int .i64 y] 3)) w2) (a : At (wr.heap.size + 1) v.ownBlock v'.ownBlock) : NR w b g v' (k + 1) (xs ++ [y]) s w2 := by
  obtain ⟨g1, R, G⟩ := h.rdr
  have hs := h.kp.size
  have K : Kp v.ownBlock.toList wr w2 := ((Kp.refl _ wr).alloc _).trans kk (fun x hx => .inl hx)
  refine ⟨h.kp.row K (fun z hz => .inr (h.lo z hz)), by rw [iv_app]; exact o, a.ge (by omega) h.lo, ⟨g1, R.kp K ?_ ?_, G⟩, h.gb⟩
  · intro hm
    have := h.lo b (by simpa using hm)
    have := h.gb.2
    omega
  · intro x hx hm
    have h1 := h.lo x (by simpa using hm)
    rcases G with rfl | rfl
    · have := h.gb.1 x hx; omega
    · cases hx
theorem NR.post {w wr : World} {b : Nat} {g : Option Nat} {v : Value} {k : Nat} {xs : List Int} {s : Option (List Int)} (h : NR w b g v k xs s wr) (hk : xs.length = k) : NodesPost b g xs s w (.returned v) wr := by
  obtain ⟨g1, R, G⟩ := h.rdr
  exact ⟨v, rfl, ⟨by rw [hk]; exact h.own, h.lo⟩, g1, R, G, h.kp⟩
theorem NR.form {w wr : World} {b : Nat} {g : Option Nat} {v : Value} {k : Nat} {xs : List Int} {s : Option (List Int)} (h : NR w b g v k xs s wr) : ∃ A c, v = .slice A k c ∧ (A = none → c = 0) ∧ Rd wr A (iv .i64 xs) := by
  obtain ⟨A, c, e, _, _, r, n⟩ := own_rd h.own
  exact ⟨A, c, e, n, r⟩
theorem NR.err {w wr : World} {b : Nat} {g : Option Nat} {v : Value} {k : Nat} {xs : List Int} {s : Option (List Int)} (h : NR w b g v k xs s wr) : wr.cell? ⟨b, 1, none⟩ = some (.bool s.isNone) := by
  obtain ⟨g', ⟨A, c, h1, _⟩, _⟩ := h.rdr
  exact blk_cell h1 1 rfl

/-- rows so far -/
structure SR (w : World) (b : Nat) (g : Option Nat) (v : Value) (k : Nat) (l : List (List Int)) (s : Option (List Int)) (wr : World) : Prop where
  kp : Kp [b] w wr
  own : ∃ vs, wr.ownsRow 0 22 1 v k vs
  rows : OwnL [b] wr w.heap.size v l
  len : l.length = k
  rdr : ∃ g', Rdr wr b g' s ∧ (g' = g ∨ g' = none)
  gb : (∀ y, g = some y → y < w.heap.size) ∧ b < w.heap.size
theorem SR.start {w w1 : World} {b : Nat} {g g1 : Option Nat} {s : Option (List Int)} (hb : b < w.heap.size) (hg : ∀ y, g = some y → y < w.heap.size) (R : Rdr w1 b g1 s) (G : g1 = g ∨ g1 = none) (k : Kp [b] w w1) : SR w b g (.slice none 0 0) 0 [] s w1 :=
  ⟨k, ⟨[], World.ownsRow_nil _ 0 _ 1⟩, OwnL.nil _ _ _, rfl, ⟨g1, R, G⟩, hg, hb⟩
theorem SR.lo {w wr : World} {b : Nat} {g : Option Nat} {v : Value} {k : Nat} {l : List (List Int)} {s : Option (List Int)} (h : SR w b g v k l s wr) : ∀ y, v.ownBlock = some y → w.heap.size ≤ y := by
  obtain ⟨vs, _, h2, _⟩ := h.rows
  exact h2
theorem SR.took {w wr w5 : World} {b : Nat} {g g1 g5 : Option Nat} {v : Value} {k : Nat} {l : List (List Int)} {s s' : Option (List Int)} (h : SR w b g v k l s wr) (R5 : Rdr w5 b g5 s') (G : g1 = g ∨ g1 = none) (G5 : g5 = g1 ∨ g5 = none) (K5 : Kp [b] wr w5) : SR w b g v k l s' w5 := by
  have hb := h.gb.2
  have hlo := h.lo
  have hn : ∀ y, v.ownBlock = some y → y ∉ [b] := fun y hy hm => by
    have := hlo y hy
    simp at hm
    omega
  obtain ⟨vs, o⟩ := h.own
  refine ⟨h.kp.trans K5 (fun x hx => .inl hx), ⟨vs, K5.own o hn⟩, h.rows.kp K5 (fun x hx => .inl hx) hn (fun x hx => .inl hx), h.len, ⟨g5, R5, ?_⟩, h.gb⟩
  rcases G5 with rfl | rfl
  · exact G
  · exact .inr rfl
theorem SR.put {w w1 w2 : World} {b lo : Nat} {g : Option Nat} {v v' u : Value} {k : Nat} {l : List (List Int)} {s : Option (List Int)} {xs : List Int} {vs : List Value} (h : SR w b g v k l s w1) (hlt : ∀ y, v.ownBlock = some y → y < lo) (hw : w.heap.size ≤ lo) (hu : Own 3 .i64 w1 lo u xs)
    (hvs : w1.ownsRow 0 22 1 v k vs) (o : w2.ownsRow 0 22 1 v' (k + 1) (vs ++ [u])) (kk : Kp v.ownBlock.toList (w1.alloc (.cells #[u] 22)) w2) (a : At (w1.heap.size + 1) v.ownBlock v'.ownBlock) : SR w b g v' (k + 1) (l ++ [xs]) s w2 := by
  obtain ⟨g1, R, G⟩ := h.rdr
  have hlo := h.lo
  have hs := h.kp.size
  have ka : Kp [] w1 (w1.alloc (.cells #[u] 22)) := (Kp.refl [] w1).alloc _
  have hu2 : Own 3 .i64 (w1.alloc (.cells #[u] 22)) w.heap.size u xs := (hu.kp ka (by simp)).lower hw
  have rows := OwnL.snoc h.len (h.rows.kp ka (by simp) (by simp) (fun x hx => .inl hx)) (ka.own hvs (by simp)) hu2 (fun q hq => ?_) o kk (by simpa using a) (by simp; omega)
  · have K : Kp v.ownBlock.toList w1 w2 := ((Kp.refl _ w1).alloc _).trans kk (fun x hx => .inl hx)
    refine ⟨h.kp.row K (fun z hz => .inr (hlo z hz)), ⟨_, o⟩, rows, by simp [h.len], ⟨g1, R.kp K ?_ ?_, G⟩, h.gb⟩
    · intro hm
      have := hlo b (by simpa using hm)
      have := h.gb.2
      omega
    · intro x hx hm
      have h1 := hlo x (by simpa using hm)
      rcases G with rfl | rfl
      · have := h.gb.1 x hx; omega
      · cases hx
  · have h1 := (hu.lt hq).1
    have h2 := h.gb.2
    refine ⟨by simp; omega, fun e => ?_⟩
    have := hlt q e
    omega
theorem SR.post {w wr : World} {b : Nat} {g : Option Nat} {v : Value} {k : Nat} {l : List (List Int)} {s : Option (List Int)} (h : SR w b g v k l s wr) : ShardsPost b g l s w (.returned v) wr := by
  obtain ⟨g1, R, G⟩ := h.rdr
  exact ⟨v, rfl, h.rows, g1, R, G, h.kp⟩
theorem SR.form {w wr : World} {b : Nat} {g : Option Nat} {v : Value} {k : Nat} {l : List (List Int)} {s : Option (List Int)} (h : SR w b g v k l s wr) : ∃ A c, v = .slice A k c := by
  obtain ⟨A, c, e, _⟩ := h.rows.form
  exact ⟨A, c, by rw [e, h.len]⟩
theorem SR.err {w wr : World} {b : Nat} {g : Option Nat} {v : Value} {k : Nat} {l : List (List Int)} {s : Option (List Int)} (h : SR w b g v k l s wr) : wr.cell? ⟨b, 1, none⟩ = some (.bool s.isNone) := by
  obtain ⟨g', ⟨A, c, h1, _⟩, _⟩ := h.rdr
  exact blk_cell h1 1 rfl
theorem SR.bad {w wr : World} {b : Nat} {g : Option Nat} {v : Value} {k : Nat} {l : List (List Int)} {s : Option (List Int)} (h : SR w b g v k l s wr) :
    Calls Try.prog 73 #[.pointer (some ⟨b, 0, none⟩)] wr fun e w5 => e = .returned (.tuple #[]) ∧ SR w b g v k l none w5 ∧ Kp [b] wr w5 := by
  obtain ⟨g1, R, G⟩ := h.rdr
  refine (bad_any b g1 s wr R).mono ?_
  rintro e w5 ⟨rfl, g5, R5, G5, K5⟩
  exact ⟨rfl, h.took R5 G G5 K5, K5⟩
/-- one row is read, in place -/
theorem SR.one {w wr w5 : World} {b : Nat} {g g1 : Option Nat} {v : Value} {k : Nat} {l : List (List Int)} {s s' : Option (List Int)} {xs : List Int} {e : Ending} (h : SR w b g v k l s wr) (G : g1 = g ∨ g1 = none) (hp : NodesPost b g1 xs s' wr e w5) :
    ∃ u A c vs, e = .returned u ∧ u = .slice A xs.length c ∧ Own 3 .i64 w5 wr.heap.size u xs ∧ SR w b g v k l s' w5 ∧ w5.ownsRow 0 22 1 v k vs ∧ (∀ y, v.ownBlock = some y → y < wr.heap.size) ∧ w.heap.size ≤ wr.heap.size := by
  obtain ⟨u, rfl, o, g5, R5, G5, K5⟩ := hp
  obtain ⟨A, c, hv, _, _, _, _⟩ := own_rd o.1
  have h5 := h.took R5 G G5 K5
  obtain ⟨vs, ow⟩ := h5.own
  obtain ⟨vs', ow'⟩ := h.own
  exact ⟨u, A, c, vs, rfl, hv, o, h5, ow, fun y hy => own_lt ow' y hy, h.kp.size⟩
theorem SR.skip {w wr w1 : World} {b : Nat} {g : Option Nat} {v : Value} {k : Nat} {l : List (List Int)} {s : Option (List Int)} (h : SR w b g v k l s wr) (kk : Kp [] wr w1) : SR w b g v k l s w1 := by
  obtain ⟨g1, R, G⟩ := h.rdr
  obtain ⟨vs, o⟩ := h.own
  exact ⟨h.kp.trans kk (by simp), ⟨vs, kk.own o (by simp)⟩, h.rows.kp kk (by simp) (by simp) (fun x hx => .inl hx), h.len, ⟨g1, R.kp kk (by simp) (by simp), G⟩, h.gb⟩
/-- rows so far, and one more that is to be appended -/
structure SU (w : World) (b : Nat) (g : Option Nat) (v : Value) (k : Nat) (l : List (List Int)) (s : Option (List Int)) (u : Value) (xs : List Int) (vs : List Value) (wr : World) : Prop where
  sr : SR w b g v k l s wr
  own : wr.ownsRow 0 22 1 v k vs
  row : ∃ lo, Own 3 .i64 wr lo u xs ∧ (∀ y, v.ownBlock = some y → y < lo) ∧ w.heap.size ≤ lo
theorem SR.ones {w wr w5 : World} {b : Nat} {g g1 : Option Nat} {v : Value} {k : Nat} {l : List (List Int)} {s s' : Option (List Int)} {xs : List Int} {e : Ending} (h : SR w b g v k l s wr) (G : g1 = g ∨ g1 = none) (hp : NodesPost b g1 xs s' wr e w5) :
    ∃ A c vs, e = .returned (.slice A xs.length c) ∧ SU w b g v k l s' (.slice A xs.length c) xs vs w5 := by
  obtain ⟨u, A, c, vs, he, rfl, o2, h2, ow2, lt2, le2⟩ := h.one G hp
  exact ⟨A, c, vs, he, h2, ow2, wr.heap.size, o2, lt2, le2⟩
theorem SU.skip {w wr w1 : World} {b : Nat} {g : Option Nat} {v u : Value} {k : Nat} {l : List (List Int)} {s : Option (List Int)} {xs : List Int} {vs : List Value} (h : SU w b g v k l s u xs vs wr) (kk : Kp [] wr w1) : SU w b g v k l s u xs vs w1 := by
  obtain ⟨lo, h1, h2, h3⟩ := h.row
  exact ⟨h.sr.skip kk, kk.own h.own (by simp), lo, h1.kp kk (by simp), h2, h3⟩
theorem SU.bad {w wr : World} {b : Nat} {g : Option Nat} {v u : Value} {k : Nat} {l : List (List Int)} {s : Option (List Int)} {xs : List Int} {vs : List Value} (h : SU w b g v k l s u xs vs wr) :
    Calls Try.prog 73 #[.pointer (some ⟨b, 0, none⟩)] wr fun e w5 => e = .returned (.tuple #[]) ∧ SU w b g v k l none u xs vs w5 := by
  refine h.sr.bad.mono ?_
  rintro e w5 ⟨rfl, h5, k5⟩
  obtain ⟨lo, h1, h2, h3⟩ := h.row
  have hb := h.sr.gb.2
  have hv := h.sr.lo
  refine ⟨rfl, h5, k5.own h.own (fun y hy hm => ?_), lo, h1.kp k5 (fun y hy hm => ?_), h2, h3⟩
  · have := hv y hy
    simp at hm
    omega
  · have := (h1.lt hy).1
    simp at hm
    omega
theorem SU.put {w w1 w2 : World} {b : Nat} {g : Option Nat} {v v' u : Value} {k : Nat} {l : List (List Int)} {s : Option (List Int)} {xs : List Int} {vs : List Value} (h : SU w b g v k l s u xs vs w1)
    (o : w2.ownsRow 0 22 1 v' (k + 1) (vs ++ [u])) (kk : Kp v.ownBlock.toList (w1.alloc (.cells #[u] 22)) w2) (a : At (w1.heap.size + 1) v.ownBlock v'.ownBlock) : SR w b g v' (k + 1) (l ++ [xs]) s w2 := by
  obtain ⟨lo, h1, h2, h3⟩ := h.row
  exact h.sr.put h2 h3 h1 h.own o kk a
theorem SU.rd {w wr : World} {b : Nat} {g : Option Nat} {v : Value} {k : Nat} {l : List (List Int)} {s : Option (List Int)} {A : Option Addr} {n c : Nat} {xs : List Int} {vs : List Value} (h : SU w b g v k l s (.slice A n c) xs vs wr) : Rd wr A (iv .i64 xs) := by
  obtain ⟨lo, h1, _⟩ := h.row
  obtain ⟨_, _, hv, _, _, r, _⟩ := own_rd h1.1
  cases hv
  exact r
theorem NR.skip {w wr w1 : World} {b : Nat} {g : Option Nat} {v : Value} {k : Nat} {xs : List Int} {s : Option (List Int)} (h : NR w b g v k xs s wr) (kk : Kp [] wr w1) : NR w b g v k xs s w1 := by
  obtain ⟨g1, R, G⟩ := h.rdr
  exact ⟨h.kp.trans kk (by simp), kk.own h.own (by simp), h.lo, ⟨g1, R.kp kk (by simp) (by simp), G⟩, h.gb⟩
end Go.Proofs.Ytiabdeciadfiiaa.reader
