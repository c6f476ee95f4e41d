/- Records one behind the other: plain words; and Encode of one row. -/
import Derived.Test.YtlknlpiiogmfbaaFrameE
namespace Go.Proofs.Ytlknlpiiogmfbaa.O
open Go.RowKit H

def encs (l : List (List Int)) : List Int := (l.map fEnc).flatten
theorem encs_nil : encs [] = [] := rfl
theorem encs_cons (x : List Int) (l : List (List Int)) : encs (x :: l) = fEnc x ++ encs l := by simp [encs]
theorem encs_app (l r : List (List Int)) : encs (l ++ r) = encs l ++ encs r := by simp [encs]
theorem encs_step (l : List (List Int)) (k : Nat) (h : k < l.length) : encs (l.take (k + 1)) = encs (l.take k) ++ fEnc l[k] := by
  rw [take_succ' l k h, encs_app, encs_cons, encs_nil, List.append_nil]
theorem encs_wf {l : List (List Int)} (h : ∀ x ∈ l, Wf x) : Wf (encs l) := by
  induction l with
  | nil => exact Wf.nil
  | cons x l ih =>
    rw [encs_cons]
    exact wf_app (fEnc_wf (h x (by simp))) (ih (fun y hy => h y (by simp [hy])))
theorem encs_ne {x : List Int} {l : List (List Int)} {r : List Int} : encs (x :: l) ++ r ≠ [] := by
  intro h
  have := congrArg List.length h
  rw [encs_cons, List.length_append, List.length_append, fEnc_len] at this
  simp only [List.length_nil] at this
  omega
theorem fScan_encs : ∀ (l : List (List Int)) (r : List Int), (∀ x ∈ l, x.length ≤ 1048576) → fScan (encs l ++ r) = (l ++ (fScan r).1, (encs l).length + (fScan r).2)
  | [], r, _ => by simp [encs_nil]
  | x :: l, r, h => by
    have hd := fDec_enc (p := x) (encs l ++ r) (h x (by simp))
    have hb : encs (x :: l) ++ r = fEnc x ++ (encs l ++ r) := by rw [encs_cons, List.append_assoc]
    rw [← hb] at hd
    have h0 : (fDec (encs (x :: l) ++ r)).2.2 = 0 := by rw [hd]
    have hdr : (encs (x :: l) ++ r).drop (x.length + 12) = encs l ++ r := by rw [hb, List.drop_left' (fEnc_len x)]
    rw [fScan_step encs_ne h0, hd, hdr, fScan_encs l r (fun y hy => h y (by simp [hy]))]
    rw [encs_cons, List.length_append, fEnc_len]
    simp [Nat.add_assoc]
theorem fScan_all (l : List (List Int)) (h : ∀ x ∈ l, x.length ≤ 1048576) : fScan (encs l) = (l, (encs l).length) := by
  have := fScan_encs l [] h
  rw [List.append_nil, fScan_end (.inl rfl), List.append_nil, Nat.add_zero] at this
  exact this
end Go.Proofs.Ytlknlpiiogmfbaa.O
namespace Go.Proofs.Ytlknlpiiogmfbaa.H
open Go.RowKit
theorem Rs.pre {S : List Nat} {w : World} {A : Option Addr} {l r : List (List Int)} (h : Rs S w A (l ++ r)) : Rs S w A l := by
  intro j hj
  obtain ⟨a, Aj, cj, rfl, h0, hc, h1, h2, h3⟩ := h j (by rw [List.length_append]; omega)
  have e : (l ++ r)[j]'(by rw [List.length_append]; omega) = l[j] := List.getElem_append_left hj
  rw [e] at hc h1 h3
  exact ⟨a, Aj, cj, rfl, h0, hc, h1, h2, h3⟩
theorem Rs.take {S : List Nat} {w : World} {A : Option Addr} {l : List (List Int)} (h : Rs S w A l) (n : Nat) : Rs S w A (l.take n) := by
  have e : l = l.take n ++ l.drop n := (List.take_append_drop n l).symm
  rw [e] at h
  exact h.pre
/-- A row of bytes that is gathered: it owns X, in a block of the call's own. -/
structure Acc (w wr : World) (v : Value) (T : Nat) (X : List Int) : Prop where
  own : wr.ownsRow 0 5 1 v T (iv .u8 X)
  lo : ∀ g, v.ownBlock = some g → w.heap.size ≤ g
  kp : Kp [] w wr
theorem Acc.len {w wr : World} {v : Value} {T : Nat} {X : List Int} (h : Acc w wr v T X) : X.length = T := by have := h.own.1; rw [iv_len] at this; omega
theorem Acc.keep {w wr w1 : World} {v : Value} {T : Nat} {X : List Int} (h : Acc w wr v T X) (k : Kp [] wr w1) : Acc w w1 v T X := ⟨k.own h.own (by simp), h.lo, h.kp.trans k (by simp)⟩
theorem Acc.more {w wr w1 : World} {v v1 : Value} {T m T' : Nat} {X y : List Int} (h : Acc w wr v T X) (o : w1.ownsRow 0 5 1 v1 (T + m) (iv .u8 X ++ iv .u8 y)) (k : Kp v.ownBlock.toList wr w1) (a : At wr.heap.size v.ownBlock v1.ownBlock) (hT : T' = T + m) : Acc w w1 v1 T' (X ++ y) :=
  ⟨by rw [iv_app, hT]; exact o, a.ge h.kp.size h.lo, h.kp.row k (fun x hx => .inr (h.lo x hx))⟩
theorem Acc.one {w wr w1 : World} {v v1 : Value} {T T' : Nat} {X : List Int} {y : Int} (h : Acc w wr v T X) (o : w1.ownsRow 0 5 1 v1 (T + 1) (iv .u8 X ++ [.int .u8 y])) (k : Kp v.ownBlock.toList (wr.alloc (.cells #[.int .u8 y] 5)) w1) (a : At (wr.heap.size + 1) v.ownBlock v1.ownBlock) (hT : T' = T + 1) : Acc w w1 v1 T' (X ++ [y]) :=
  ⟨by rw [iv_app, hT]; exact o, a.ge (by have := h.kp.size; omega) h.lo, (h.kp.alloc _).row k (fun x hx => .inr (h.lo x hx))⟩
theorem Acc.empty {w w2 : World} (k : Kp [] w w2) : Acc w (w2.alloc (.cells #[] 5)) (.slice (some ⟨w2.heap.size, 0, none⟩) 0 0) 0 [] :=
  ⟨own_new w2 [] _ (Nat.zero_le _), by have := k.size; intro g hg; simp [Value.ownBlock] at hg; omega, k.alloc _⟩
theorem Acc.nil (w : World) : Acc w w (.slice none 0 0) 0 [] := ⟨World.ownsRow_nil w 0 _ 1, by simp [Value.ownBlock], Kp.refl _ _⟩
end Go.Proofs.Ytlknlpiiogmfbaa.H
namespace Go.Proofs.Ytlknlpiiogmfbaa.frame
open Go.RowKit H O joins
theorem enc_one {w : World} {A : Option Addr} {n c N : Nat} {x : List Int} (hn : x.length = n) (hN : N = n + 12) (hr : Rd w A (iv .u8 x)) (hc : n ≤ c) (hnil : A = none → c = 0) (hw : Wf x) (hm : n ≤ 1000000) :
    Calls Try.prog 13 #[.slice (some ⟨w.heap.size, 0, none⟩) 1 1] (w.alloc (.cells #[.slice A n c] 22)) fun e w' => ∃ A1 c1, e = .returned (.tuple #[.slice A1 N c1, .int .i64 0]) ∧ Kp [] w w' ∧ Rd w' A1 (iv .u8 (fEnc x)) ∧ N ≤ c1 ∧ (A1 = none → c1 = 0) := by
  have h := enc_any (some ⟨w.heap.size, 0, none⟩) 1 1 [x] (w.alloc (.cells #[.slice A n c] 22)) rfl (rs_cell w A x n c hn hc hnil 22 (RdS.new hr (Kp.refl _ _) (by simp)) (by simp)) (Nat.le_refl _)
    (by intro y hy; simp only [List.mem_singleton] at hy; subst hy; exact hw) (by simp; omega) (by decide)
  rw [show [x].flatten = x from by simp] at h
  refine h.mono ?_
  rintro e w' ⟨A1, c1, rfl, k1, j1, r1, g1, g1', n1⟩
  rw [hn, ← hN] at g1 ⊢
  exact ⟨A1, c1, rfl, ((Kp.refl [] w).alloc _).trans k1 (by simp), r1, g1, n1⟩
/-- Scan of records -/
theorem scan_rd {w : World} {A : Option Addr} {n c : Nat} {xs : List Int} (hn : xs.length = n) (hr : Rd w A (iv .u8 xs)) (hc : n ≤ c) (hw : Wf xs) (hm : n ≤ 900000) (l : List (List Int)) (t m : Nat) (he : fScan xs = (l, t)) (hl : l.length = m) :
    Calls Try.prog 19 #[.slice A n c] w fun e w' => ∃ A1 c1, e = .returned (.tuple #[.slice A1 m c1, .int .i64 (t : Int)]) ∧ Rs [] w' A1 l ∧ m ≤ c1 ∧ (A1 = none → c1 = 0) ∧ Kp [] w w' := by
  refine (scan_any A n c xs w hn hr hc hw hm).mono ?_
  intro e w' h
  unfold FScan at h
  rw [he] at h
  obtain ⟨A1, c1, rfl, h1, h2, h3, h4⟩ := h
  rw [hl] at h2 ⊢
  exact ⟨A1, c1, rfl, h1, h2, h3, h4⟩
end Go.Proofs.Ytlknlpiiogmfbaa.frame
