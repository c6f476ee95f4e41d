/- Two Writers and a row, none of which lies over another. -/
import Derived.Test.YtdafiblehgeddaaWriter
namespace Go.Proofs.Ytdafiblehgeddaa.H
open Go.RowKit

/-- No block stands in both. -/
def Dj (F G : List Nat) : Prop := ∀ x ∈ F, x ∉ G
theorem Dj.symm {F G : List Nat} (h : Dj F G) : Dj G F := fun x hx hf => h x hf hx
theorem Dj.new {F F' G : List Nat} {n : Nat} (h : Dj F G) (hF : ∀ x ∈ F', x ∈ F ∨ n ≤ x) (hG : ∀ x ∈ G, x < n) : Dj F' G := fun x hx hg => by
  rcases hF x hx with h1 | h1
  · exact h x h1 hg
  · have := hG x hg
    omega
theorem at_foot {n : Nat} {g g' : Option Nat} (h : At n g g') : ∀ x ∈ g'.toList, x ∈ g.toList ∨ n ≤ x := by
  intro x hx
  have hx' : g' = some x := by simpa using hx
  rcases h with rfl | ⟨k, rfl, hk⟩
  · exact .inl hx
  · have := Option.some.inj hx'
    exact .inr (by omega)
theorem at_foot_cons {n b : Nat} {g g' : Option Nat} (h : At n g g') : ∀ x ∈ b :: g'.toList, x ∈ b :: g.toList ∨ n ≤ x := by
  intro x hx
  rcases List.mem_cons.1 hx with rfl | hx
  · exact .inl (by simp)
  · rcases at_foot h x hx with h1 | h1
    · exact .inl (List.mem_cons_of_mem _ h1)
    · exact .inr h1

structure TwoW (w0 wr : World) (b1 : Nat) (xs1 : List Int) (b2 : Nat) (xs2 : List Int) (want : Value) (zs : List Int) : Prop where
  kp : Kp [] w0 wr
  own : Own 5 .u8 wr w0.heap.size want zs
  ex : ∃ g1 g2, writer.Wr wr b1 g1 xs1 ∧ writer.Wr wr b2 g2 xs2 ∧ Dj (b1 :: g1.toList) (b2 :: g2.toList) ∧ Dj (b1 :: g1.toList) want.ownBlock.toList ∧ Dj (b2 :: g2.toList) want.ownBlock.toList ∧
    (∀ x ∈ b1 :: g1.toList, w0.heap.size ≤ x) ∧ ∀ x ∈ b2 :: g2.toList, w0.heap.size ≤ x

theorem wr_foot {w : World} {b : Nat} {g : Option Nat} {xs : List Int} (h : writer.Wr w b g xs) : ∀ x ∈ b :: g.toList, x < w.heap.size := by
  intro x hx
  rcases List.mem_cons.1 hx with rfl | hx
  · exact h.lt.1
  · exact h.lt.2 x (by simpa using hx)
theorem own_foot {e : TypeId} {w : World} {lo : Nat} {v : Value} {xs : List Int} (h : Own e .u8 w lo v xs) : ∀ x ∈ v.ownBlock.toList, x < w.heap.size := fun x hx => own_lt h.1 x (by simpa using hx)
theorem wr_far {w w1 : World} {b : Nat} {g : Option Nat} {xs : List Int} {S : List Nat} (h : writer.Wr w b g xs) (k : Kp S w w1) (d : Dj (b :: g.toList) S) : writer.Wr w1 b g xs :=
  h.kp k (d b (by simp)) (fun x hx => d x (by simp [hx]))

theorem TwoW.swap {w0 wr : World} {b1 b2 : Nat} {xs1 xs2 zs : List Int} {want : Value} (h : TwoW w0 wr b1 xs1 b2 xs2 want zs) : TwoW w0 wr b2 xs2 b1 xs1 want zs := by
  obtain ⟨g1, g2, h1, h2, d1, d2, d3, l1, l2⟩ := h.ex
  exact ⟨h.kp, h.own, g2, g1, h2, h1, d1.symm, d3, d2, l2, l1⟩
theorem TwoW.skip {w0 wr w1 : World} {b1 b2 : Nat} {xs1 xs2 zs : List Int} {want : Value} (h : TwoW w0 wr b1 xs1 b2 xs2 want zs) (k : Kp [] wr w1) : TwoW w0 w1 b1 xs1 b2 xs2 want zs := by
  obtain ⟨g1, g2, h1, h2, d1, d2, d3, l1, l2⟩ := h.ex
  exact ⟨h.kp.trans k (by simp), h.own.kp k (by simp), g1, g2, h1.kp k (by simp) (by simp), h2.kp k (by simp) (by simp), d1, d2, d3, l1, l2⟩
/-- A call of the first Writer. -/
theorem TwoW.call {w0 wr : World} {b1 b2 : Nat} {xs1 xs2 zs ys : List Int} {want : Value} {f : FuncId} {args : Array Value} (h : TwoW w0 wr b1 xs1 b2 xs2 want zs)
    (hc : ∀ g, writer.Wr wr b1 g xs1 → (∀ x ∈ b1 :: g.toList, w0.heap.size ≤ x) → Calls Try.prog f args wr (writer.WrPost b1 g xs1 ys wr)) :
    Calls Try.prog f args wr fun e w' => e = .returned (.tuple #[]) ∧ TwoW w0 w' b1 (xs1 ++ ys) b2 xs2 want zs := by
  obtain ⟨g1, g2, h1, h2, d1, d2, d3, l1, l2⟩ := h.ex
  refine (hc g1 h1 l1).mono ?_
  rintro e w' ⟨rfl, g', W, A, K⟩
  have hf := at_foot_cons (b := b1) A
  refine ⟨rfl, h.kp.trans K (fun x hx => .inr (l1 x hx)), h.own.kp K (fun x hx hm => d2 x hm (by simpa using hx)), g', g2, W, wr_far h2 K d1.symm, d1.new hf (wr_foot h2), d2.new hf (own_foot h.own), d3, ?_, l2⟩
  intro x hx
  rcases hf x hx with h9 | h9
  · exact l1 x h9
  · have := h.kp.size
    omega
/-- The row grows. -/
theorem TwoW.app {w0 wr w1 : World} {b1 b2 m n : Nat} {xs1 xs2 zs us : List Int} {want v1 : Value} (h : TwoW w0 wr b1 xs1 b2 xs2 want zs) (hm : zs.length = m) (hn : us.length = n)
    (o : w1.ownsRow 0 5 1 v1 (m + n) (iv .u8 zs ++ iv .u8 us)) (k : Kp want.ownBlock.toList wr w1) (a : At wr.heap.size want.ownBlock v1.ownBlock) : TwoW w0 w1 b1 xs1 b2 xs2 v1 (zs ++ us) := by
  subst hm hn
  obtain ⟨g1, g2, h1, h2, d1, d2, d3, l1, l2⟩ := h.ex
  have hf := at_foot a
  exact ⟨h.kp.row k (fun x hx => .inr (h.own.2 x hx)), ⟨by simpa [iv] using o, a.ge h.kp.size h.own.2⟩, g1, g2, wr_far h1 k d2, wr_far h2 k d3, d1, (d2.symm.new hf (wr_foot h1)).symm, (d3.symm.new hf (wr_foot h2)).symm, l1, l2⟩

end Go.Proofs.Ytdafiblehgeddaa.H
