/- Records that are cut short: plain words; a row of bytes and a row of numbers, apart. -/
import Derived.Test.YtlknlpiiogmfbaaFrameR
import Derived.Test.YtlknlpiiogmfbaaFrameS
import Derived.Test.YtlknlpiiogmfbaaCuts
namespace Go.Proofs.Ytlknlpiiogmfbaa.O
open Go.RowKit H

theorem fDec_torn {p : List Int} (r : List Int) (j : Nat) (hp : p.length ≤ 1048576) (hj : j < p.length + 12) : (fDec ((fEnc p ++ r).take j)).2.2 ≠ 0 := by
  intro h0
  obtain ⟨h8, _, _⟩ := fDec_zero h0
  have hpos := fDec_pos h0
  have hl : ((fEnc p ++ r).take j).length ≤ j := by rw [List.length_take]; omega
  have hj8 : 8 ≤ j := by omega
  have hu : unf ((fEnc p ++ r).take j) = p.length := by
    rw [unf_take (by omega), fEnc, List.append_assoc, List.append_assoc]
    exact unf_head (by omega) (by omega) _
  have hk : (fDec ((fEnc p ++ r).take j)).2.1 = 12 + p.length := by
    have h := h0
    unfold fDec at h ⊢
    split at h
    · cases h
    · split at h
      · cases h
      · split at h
        · cases h
        · split at h
          · cases h
          · split at h
            · cases h
            · rename_i h1 h2 h3 h4 h5
              rw [if_neg h1, if_neg h2, if_neg h3, if_neg h4, if_neg h5, hu]
              rfl
  omega
/-- how many records are whole in the first k bytes -/
def nCut : List (List Int) → Nat → Nat
  | [], _ => 0
  | x :: l, k => if x.length + 12 ≤ k then nCut l (k - (x.length + 12)) + 1 else 0
theorem nCut_le : ∀ (l : List (List Int)) (k : Nat), nCut l k ≤ l.length
  | [], _ => Nat.le_refl _
  | x :: l, k => by
    unfold nCut
    split
    · have := nCut_le l (k - (x.length + 12))
      rw [List.length_cons]
      omega
    · omega
theorem nCut_iff : ∀ (l : List (List Int)) (k i : Nat), i < l.length → ((encs (l.take (i + 1))).length ≤ k ↔ i < nCut l k)
  | x :: l, k, 0, _ => by
    unfold nCut
    rw [List.take_succ_cons, List.take_zero, encs_cons, encs_nil, List.append_nil, fEnc_len]
    split <;> omega
  | x :: l, k, i + 1, h => by
    have ih := nCut_iff l (k - (x.length + 12)) i (by simpa using h)
    unfold nCut
    rw [List.take_succ_cons, encs_cons, List.length_append, fEnc_len]
    split
    · omega
    · omega
theorem fScan_torn : ∀ (l : List (List Int)) (k : Nat), (∀ x ∈ l, x.length ≤ 1048576) → fScan ((encs l).take k) = (l.take (nCut l k), (encs (l.take (nCut l k))).length)
  | [], k, _ => by
    rw [encs_nil, List.take_nil, fScan_end (.inl rfl)]
    simp [encs]
  | x :: l, k, h => by
    unfold nCut
    have hb : encs (x :: l) = fEnc x ++ encs l := encs_cons x l
    split
    · rename_i hk
      have ht : (encs (x :: l)).take k = fEnc x ++ (encs l).take (k - (x.length + 12)) := by
        rw [hb, List.take_append, fEnc_len, List.take_of_length_le (by rw [fEnc_len]; exact hk)]
      have hd := fDec_enc (p := x) ((encs l).take (k - (x.length + 12))) (h x (by simp))
      rw [← ht] at hd
      have h0 : (fDec ((encs (x :: l)).take k)).2.2 = 0 := by rw [hd]
      have hne : (encs (x :: l)).take k ≠ [] := by
        intro h9
        have := congrArg List.length h9
        rw [ht, List.length_append, fEnc_len] at this
        simp only [List.length_nil] at this
        omega
      have hdr : ((encs (x :: l)).take k).drop (x.length + 12) = (encs l).take (k - (x.length + 12)) := by rw [ht, List.drop_left' (fEnc_len x)]
      rw [fScan_step hne h0, hd, hdr, fScan_torn l _ (fun y hy => h y (by simp [hy]))]
      rw [List.take_succ_cons, encs_cons, List.length_append, fEnc_len]
    · rename_i hk
      rw [fScan_end (.inr (by rw [hb]; exact fDec_torn (encs l) k (h x (by simp)) (by omega)))]
      simp [encs]
/-- Where the records end. -/
def endsE (l : List (List Int)) (k : Nat) : List Int := (List.range k).map fun j => ((encs (l.take (j + 1))).length : Int)
theorem endsE_len (l : List (List Int)) (k : Nat) : (endsE l k).length = k := by simp [endsE]
theorem endsE_step (l : List (List Int)) (k : Nat) : endsE l (k + 1) = endsE l k ++ [((encs (l.take (k + 1))).length : Int)] := by simp [endsE, List.range_succ]
theorem endsE_get (l : List (List Int)) (k j : Nat) (h : j < k) : (iv .i64 (endsE l k))[j]? = some (.int .i64 ((encs (l.take (j + 1))).length : Int)) := by simp [endsE, iv, h]
end Go.Proofs.Ytlknlpiiogmfbaa.O
namespace Go.Proofs.Ytlknlpiiogmfbaa.H
open Go.RowKit
/-- A row of bytes and a row of numbers, apart. -/
structure Pair (w wr : World) (v5 v6 : Value) (zs es : List Int) : Prop where
  kp : Kp [] w wr
  own : Own 5 .u8 wr w.heap.size v5 zs
  ends : Own 3 .i64 wr w.heap.size v6 es
  apart : ∀ x, v5.ownBlock = some x → v6.ownBlock ≠ some x
theorem Pair.start (w : World) : Pair w w (.slice none 0 0) (.slice none 0 0) [] [] := ⟨Kp.refl [] w, Own.nil _ _ _ _, Own.nil _ _ _ _, by simp [Value.ownBlock]⟩
theorem Pair.skip {w wr w1 : World} {v5 v6 : Value} {zs es : List Int} (h : Pair w wr v5 v6 zs es) (k : Kp [] wr w1) : Pair w w1 v5 v6 zs es :=
  ⟨h.kp.trans k (by simp), h.own.kp k (by simp), h.ends.kp k (by simp), h.apart⟩
theorem Pair.app {w wr w1 : World} {v5 v6 v1 : Value} {zs es us : List Int} {m n : Nat} (h : Pair w wr v5 v6 zs es) (hm : zs.length = m) (hn : us.length = n) (o : w1.ownsRow 0 5 1 v1 (m + n) (iv .u8 zs ++ iv .u8 us))
    (k : Kp v5.ownBlock.toList wr w1) (a : At wr.heap.size v5.ownBlock v1.ownBlock) : Pair w w1 v1 v6 (zs ++ us) es := by
  subst hm hn
  refine ⟨h.kp.row k (fun x hx => .inr (h.own.2 x hx)), ⟨by simpa [iv] using o, a.ge h.kp.size h.own.2⟩, h.ends.kp k (fun x hx hm => h.apart x (by simpa using hm) hx), ?_⟩
  intro x hx h6
  rcases a with e | ⟨j, e, hj⟩
  · exact h.apart x (by rw [← e]; exact hx) h6
  · have := own_lt h.ends.1 x h6
    rw [e] at hx
    have := Option.some.inj hx
    omega
theorem Pair.app6 {w wr w1 : World} {v5 v6 v1 : Value} {zs es : List Int} {n : Nat} {y : Int} (h : Pair w wr v5 v6 zs es) (hn : es.length = n) (o : w1.ownsRow 0 3 1 v1 (n + 1) (iv .i64 es ++ [.int .i64 y]))
    (k : Kp v6.ownBlock.toList (wr.alloc (.cells #[.int .i64 y] 3)) w1) (a : At (wr.heap.size + 1) v6.ownBlock v1.ownBlock) : Pair w w1 v5 v1 zs (es ++ [y]) := by
  subst hn
  have k' : Kp v6.ownBlock.toList wr w1 := ((Kp.refl _ wr).alloc _).trans k (fun x hx => .inl hx)
  refine ⟨h.kp.row k' (fun x hx => .inr (h.ends.2 x hx)), h.own.kp k' (fun x hx hm => h.apart x hx (by simpa using hm)), ⟨by simpa [iv] using o, a.ge (by have := h.kp.size; omega) h.ends.2⟩, ?_⟩
  intro x hx h6
  have h5 := own_lt h.own.1 x hx
  exact a.off (by omega) (h.apart x hx) h6
end Go.Proofs.Ytlknlpiiogmfbaa.H
