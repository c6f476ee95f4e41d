/- A Map that was handed out: its rows may be written over. -/
import Derived.Test.YtiabdeciadfiiaaManY
namespace Go.Proofs.Ytiabdeciadfiiaa.haystacklaw21
open Go.RowKit H O opk man mref

/-- the Map in block Y, its rows of the lengths ls, all of it in blocks from lo on -/
def YS (lo Y : Nat) (A : Option Addr) (n c : Nat) (ver : Int) (ls : List Nat) (w : World) : Prop :=
  man.MapAt w Y ver (.slice A n c) ∧ ∀ i (_ : i < ls.length), ∃ g Ai ci, A = some ⟨g, 0, none⟩ ∧ g ≠ Y ∧ w.cell? ⟨g, i, none⟩ = some (.slice Ai ls[i] ci) ∧
    ∀ j < ls[i], ∃ k, Ai = some ⟨k, 0, none⟩ ∧ k ≠ Y ∧ k ≠ g ∧ lo ≤ k ∧ (∃ x, w.cell? ⟨k, j, none⟩ = some x) ∧ w.frozen? ⟨k, j, none⟩ = false

theorem YS.new {w : World} {lo n c : Nat} {A : Option Addr} {l : List (List Int)} {ver : Int} (h : OwnL [] w lo (.slice A n c) l) (hn : l.length = n) :
    YS lo w.heap.size A n c ver (l.map List.length) (w.alloc (.cells #[.int .i64 ver, .slice A n c] 36)) := by
  refine ⟨man.MapAt.new w ver _, fun i hi => ?_⟩
  have hi' : i < l.length := by simpa using hi
  obtain ⟨_, _, hv, _, _, _, hf⟩ := h.form
  cases hv
  have k := (Kp.refl [] w).alloc (.cells #[.int .i64 ver, .slice A l.length c] 36)
  obtain ⟨vs, h1, h2, h3⟩ := OwnL.kp (S2 := [w.heap.size]) h k (by simp) (by simp) (by intro x hx; simp at hx; omega)
  obtain ⟨g, cap, hg, _⟩ := own_form h1 (by omega)
  cases hg
  obtain ⟨u, hu, ho, hk⟩ := h3 i hi'
  obtain ⟨_, _, hv2, _, _, hrd, _⟩ := own_rd h1
  cases hv2
  obtain ⟨a, ha, hc⟩ := hrd i u hu
  cases ha
  obtain ⟨Ai, ci, rfl, _⟩ := own_rd ho.1
  have hg := (hf _ rfl).2
  have e : (l.map List.length)[i] = l[i].length := by simp
  refine ⟨g, Ai, ci, rfl, by simp at hg; omega, ?_, fun j hj => ?_⟩
  · rw [e]
    have ea : (⟨g, 0, none⟩ : Addr).add i = ⟨g, i, none⟩ := by
      unfold Addr.add
      split
      · simp
      · simp
    rw [ea] at hc
    exact hc
  · rw [e] at hj
    obtain ⟨k, cap2, hk2, _⟩ := own_form ho.1 (by omega)
    cases hk2
    obtain ⟨hx, hfz, _⟩ := own_store ho.1 j hj (.int .i64 99)
    have hkk := hk k rfl
    exact ⟨k, rfl, by simpa using hkk.1, fun e => hkk.2 (by rw [e]; rfl), ho.2 k rfl, hx, hfz⟩
theorem YS.set {lo Y : Nat} {A : Option Addr} {n c : Nat} {ver : Int} {ls : List Nat} {w : World} (h : YS lo Y A n c ver ls w) {k j : Nat} (h1 : k ≠ Y) (h2 : ∀ g, A = some ⟨g, 0, none⟩ → k ≠ g) (u : Value) : YS lo Y A n c ver ls (w.setCell ⟨k, j, none⟩ u) := by
  have kk : Kp [k] w (w.setCell ⟨k, j, none⟩ u) := (Kp.refl [k] w).setCell (.inl (by simp)) u
  refine ⟨h.1.kp kk (by simpa using Ne.symm h1), fun i hi => ?_⟩
  obtain ⟨g, Ai, ci, rfl, hg, hc, hr⟩ := h.2 i hi
  refine ⟨g, Ai, ci, rfl, hg, kk.cell hc (by simpa using Ne.symm (h2 g rfl)), fun j2 hj => ?_⟩
  obtain ⟨k2, e, e1, e2, e3, ⟨x, hx⟩, e4⟩ := hr j2 hj
  exact ⟨k2, e, e1, e2, e3, cell?_setCell_some hx, by rw [World.frozen?_setCell]; exact e4⟩
end Go.Proofs.Ytiabdeciadfiiaa.haystacklaw21
