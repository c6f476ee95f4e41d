/- A row of bytes that is gathered. -/
import Derived.Test.YtlknlpiiogmfbaaApp
import Derived.Test.YtlknlpiiogmfbaaProg
namespace Go.Proofs.Ytlknlpiiogmfbaa.H
open Go.RowKit
theorem Rs.pre {S : List Nat} {w : World} {A : Option Addr} {l r : List (List Int)} (h : Rs S w A (l ++ r)) : Rs S w A l := by
  intro j hj
  obtain ⟨a, Aj, cj, rfl, h0, hc, h1, h2, h3⟩ := h j (by rw [List.length_append]; omega)
  have e : (l ++ r)[j]'(by rw [List.length_append]; omega) = l[j] := List.getElem_append_left hj
  rw [e] at hc h1 h3
  exact ⟨a, Aj, cj, rfl, h0, hc, h1, h2, h3⟩
theorem Rs.take {S : List Nat} {w : World} {A : Option Addr} {l : List (List Int)} (h : Rs S w A l) (n : Nat) : Rs S w A (l.take n) := by
  have e : l = l.take n ++ l.drop n := (List.take_append_drop n l).symm
  rw [e] at h
  exact h.pre
/-- A row of bytes that is gathered: it owns X, in a block of the call's own. -/
structure Acc (w wr : World) (v : Value) (T : Nat) (X : List Int) : Prop where
  own : wr.ownsRow 0 5 1 v T (iv .u8 X)
  lo : ∀ g, v.ownBlock = some g → w.heap.size ≤ g
  kp : Kp [] w wr
theorem Acc.len {w wr : World} {v : Value} {T : Nat} {X : List Int} (h : Acc w wr v T X) : X.length = T := by have := h.own.1; rw [iv_len] at this; omega
theorem Acc.keep {w wr w1 : World} {v : Value} {T : Nat} {X : List Int} (h : Acc w wr v T X) (k : Kp [] wr w1) : Acc w w1 v T X := ⟨k.own h.own (by simp), h.lo, h.kp.trans k (by simp)⟩
theorem Acc.more {w wr w1 : World} {v v1 : Value} {T m T' : Nat} {X y : List Int} (h : Acc w wr v T X) (o : w1.ownsRow 0 5 1 v1 (T + m) (iv .u8 X ++ iv .u8 y)) (k : Kp v.ownBlock.toList wr w1) (a : At wr.heap.size v.ownBlock v1.ownBlock) (hT : T' = T + m) : Acc w w1 v1 T' (X ++ y) :=
  ⟨by rw [iv_app, hT]; exact o, a.ge h.kp.size h.lo, h.kp.row k (fun x hx => .inr (h.lo x hx))⟩
theorem Acc.one {w wr w1 : World} {v v1 : Value} {T T' : Nat} {X : List Int} {y : Int} (h : Acc w wr v T X) (o : w1.ownsRow 0 5 1 v1 (T + 1) (iv .u8 X ++ [.int .u8 y])) (k : Kp v.ownBlock.toList (wr.alloc (.cells #[.int .u8 y] 5)) w1) (a : At (wr.heap.size + 1) v.ownBlock v1.ownBlock) (hT : T' = T + 1) : Acc w w1 v1 T' (X ++ [y]) :=
  ⟨by rw [iv_app, hT]; exact o, a.ge (by have := h.kp.size; omega) h.lo, (h.kp.alloc _).row k (fun x hx => .inr (h.lo x hx))⟩
theorem Acc.empty {w w2 : World} (k : Kp [] w w2) : Acc w (w2.alloc (.cells #[] 5)) (.slice (some ⟨w2.heap.size, 0, none⟩) 0 0) 0 [] :=
  ⟨own_new w2 [] _ (Nat.zero_le _), by have := k.size; intro g hg; simp [Value.ownBlock] at hg; omega, k.alloc _⟩
theorem Acc.nil (w : World) : Acc w w (.slice none 0 0) 0 [] := ⟨World.ownsRow_nil w 0 _ 1, by simp [Value.ownBlock], Kp.refl _ _⟩
end Go.Proofs.Ytlknlpiiogmfbaa.H
