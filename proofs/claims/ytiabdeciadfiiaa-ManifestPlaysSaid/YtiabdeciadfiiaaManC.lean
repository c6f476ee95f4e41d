/- Package manifest: a Manifest's block; does. -/
import Derived.Test.YtiabdeciadfiiaaManB
import Derived.Test.YtiabdeciadfiiaaBase
import Derived.Deep.QuietTactic
import Derived.BigQuiet
import Derived.Deep.RegionHeld3
import Derived.Deep.CutRange
import Derived.Deep.CutBlock
namespace Go.Proofs.Ytiabdeciadfiiaa.O
open Go.RowKit H opk
theorem found_canon {xs : List Int} {s1 : Option (List Int)} {l : List (List Int)} (hw : Wf xs) (h0 : stNum (some xs) = (1, s1)) (h1 : rdG s1 = (l, some [])) : foundB l = xs ∧ (∀ x ∈ l, grp x = true) ∧ l.length ≤ 8 := by
  have hw1 : Wf (left s1) := by have := wf_num (s := some xs) (by simpa [left] using hw); rwa [h0] at this
  obtain ⟨e, h2, h3⟩ := rdG_canon hw1 (r := []) (by rw [h1])
  rw [h1] at e h2 h3
  rw [e] at h0
  obtain ⟨e0, _⟩ := stNum_canon (s := some xs) (by simpa [left] using hw) h0
  simp only [Option.some.injEq] at e0
  exact ⟨by rw [foundB, e0, List.append_nil]; rfl, h2, h3⟩
theorem move_canon {xs : List Int} {s1 s2 s3 : Option (List Int)} {n0 n1 : Nat} {l : List Int} (hw : Wf xs) (h0 : stNum (some xs) = (2, s1)) (h1 : stNum s1 = (n0, s2)) (h2 : stNum s2 = (n1, s3)) (h3 : rdN s3 = (l, some [])) : moveB n0 n1 l = xs ∧ grp l = true := by
  have hw1 : Wf (left s1) := by have := wf_num (s := some xs) (by simpa [left] using hw); rwa [h0] at this
  have hw2 : Wf (left s2) := by have := wf_num hw1; rwa [h1] at this
  have hw3 : Wf (left s3) := by have := wf_num hw2; rwa [h2] at this
  obtain ⟨e3, hg⟩ := rdN_canon hw3 (r := []) (by rw [h3])
  rw [h3] at e3 hg
  rw [e3] at h2
  obtain ⟨e2, _⟩ := stNum_canon hw2 h2
  rw [e2] at h1
  obtain ⟨e1, _⟩ := stNum_canon hw1 h1
  rw [e1] at h0
  obtain ⟨e0, _⟩ := stNum_canon (s := some xs) (by simpa [left] using hw) h0
  simp only [Option.some.injEq] at e0
  exact ⟨by rw [moveB, nums_cons, nums_cons, nums_cons, nums_nil, e0]; simp, hg⟩
theorem mDo_eq1 {ver : Nat} {sh l : List (List Int)} {xs : List Int} {s1 s2 : Option (List Int)} (h0 : stNum (some xs) = (1, s1)) (h1 : rdG s1 = (l, s2)) :
    mDo ver sh xs = if s2 = some [] ∧ l ≠ [] then (if 0 < ver then (ver, sh, 8) else (1, l, 0)) else (ver, sh, 3) := by
  simp only [mDo, h0, h1, if_true]
theorem mDo_eq2 {ver : Nat} {sh : List (List Int)} {l xs : List Int} {s1 s2 s3 s4 : Option (List Int)} {n0 n1 : Nat} (h0 : stNum (some xs) = (2, s1)) (h1 : stNum s1 = (n0, s2)) (h2 : stNum s2 = (n1, s3)) (h3 : rdN s3 = (l, s4)) :
    mDo ver sh xs = if s4 = some [] ∧ 1 ≤ n0 ∧ n0 ≤ 1099511627776 ∧ n1 < 8 then (if sh.length ≤ n1 then (ver, sh, 7) else if n0 ≠ ver then (ver, sh, 13) else (ver + 1, sh.set n1 l, 0)) else (ver, sh, 3) := by
  have e : (stNums 2 s1).2 = s3 := by simp only [stNums, h1, h2]
  simp only [mDo, h0, h1, h2, h3, e, if_true]
  rw [if_neg (by decide)]
theorem mDo_eq3 {ver : Nat} {sh : List (List Int)} {xs : List Int} {s1 : Option (List Int)} {n : Nat} (h0 : stNum (some xs) = (n, s1)) (h1 : n ≠ 1) (h2 : n ≠ 2) : mDo ver sh xs = (ver, sh, 3) := by
  simp only [mDo, h0]
  rw [if_neg h1, if_neg h2]
end Go.Proofs.Ytiabdeciadfiiaa.O
namespace Go.Proofs.Ytiabdeciadfiiaa.H
/-- a row of rows is given another row -/
theorem OwnL.set {S : List Nat} {w : World} {lo g n c j : Nat} {l : List (List Int)} {u : Value} {xs : List Int} (h : OwnL S w lo (.slice (some ⟨g, 0, none⟩) n c) l) (hj : j < n) (hu : Own 3 .i64 w lo u xs) (hk : ∀ k, u.ownBlock = some k → k ∉ S ∧ k ≠ g) :
    (∃ x, w.cell? ⟨g, j, none⟩ = some x) ∧ w.frozen? ⟨g, j, none⟩ = false ∧ OwnL S (w.setCell ⟨g, j, none⟩ u) lo (.slice (some ⟨g, 0, none⟩) n c) (l.set j xs) := by
  obtain ⟨vs, h1, h2, h3⟩ := h
  have hn : l.length = n := by
    rcases h1.2 with ⟨e, _⟩ | ⟨_, _, _, e, _⟩
    · cases e
    · cases e; rfl
  subst hn
  obtain ⟨a1, a2, a3⟩ := own_store h1 j hj u
  refine ⟨a1, a2, vs.set j u, by rw [List.length_set]; exact a3, h2, fun i hi => ?_⟩
  have lv : vs.length = l.length := by simpa using h1.1
  have kk : Kp [g] w (w.setCell ⟨g, j, none⟩ u) := (Kp.refl _ w).setCell (.inl (by simp)) u
  by_cases e : i = j
  · subst e
    refine ⟨u, by rw [List.getElem?_set_self (by omega)], ?_, fun k hk2 => ⟨(hk k hk2).1, fun e => (hk k hk2).2 (by have := Option.some.inj e; exact this.symm)⟩⟩
    rw [List.getElem_set_self]
    exact hu.kp kk (fun k hk2 hm => (hk k hk2).2 (by simpa using hm))
  · obtain ⟨y, hy, ho, hyk⟩ := h3 i (by simpa using hi)
    refine ⟨y, by rw [List.getElem?_set_ne (Ne.symm e)]; exact hy, ?_, hyk⟩
    rw [List.getElem_set_ne (Ne.symm e)]
    refine ho.kp kk (fun k hk2 hm => (hyk k hk2).2 ?_)
    have : k = g := by simpa using hm
    rw [this]; rfl
end Go.Proofs.Ytiabdeciadfiiaa.H
namespace Go.Proofs.Ytiabdeciadfiiaa.man
open Go.RowKit H O opk

/-- The Manifest in block b, its shards in block g (if any), none of it in the blocks T. -/
structure MSt (T : List Nat) (lo : Nat) (b : Nat) (g : Option Nat) (ver : Nat) (sh : List (List Int)) (done : Int) (w : World) : Prop where
  blk : ∃ A c, w.heap[b]? = some (.cells #[.int .i64 (ver : Int), .slice A sh.length c, .int .i64 done] 77 (0, 0)) ∧ A.map Addr.block = g ∧ OwnL (b :: T) w lo (.slice A sh.length c) sh
  apart : ∀ x ∈ b :: T, g ≠ some x
theorem MSt.lt {T : List Nat} {lo b : Nat} {g : Option Nat} {ver : Nat} {sh : List (List Int)} {done : Int} {w : World} (h : MSt T lo b g ver sh done w) : b < w.heap.size ∧ ∀ x, g = some x → x < w.heap.size := by
  obtain ⟨A, c, h1, rfl, h3⟩ := h.blk
  obtain ⟨vs, h4, _⟩ := h3
  exact ⟨lt_of_block h1, fun x hx => own_lt h4 x (by rw [ownBlock_slice]; exact hx)⟩
theorem MSt.kp {S T : List Nat} {lo b : Nat} {g : Option Nat} {ver : Nat} {sh : List (List Int)} {done : Int} {w w' : World} (h : MSt T lo b g ver sh done w) (k : Kp S w w') (hS : ∀ x ∈ S, (x ∈ T ∧ x ≠ b) ∨ w.heap.size ≤ x) : MSt T lo b g ver sh done w' := by
  have hl := h.lt
  have ha := h.apart
  obtain ⟨A, c, h1, rfl, h3⟩ := h.blk
  refine ⟨⟨A, c, k.blk h1 (fun hm => ?_), rfl, h3.kp k (fun x hx => ?_) (fun x hx hm => ?_) (fun x hx => .inl hx)⟩, h.apart⟩
  · rcases hS b hm with e | e
    · exact e.2 rfl
    · omega
  · rcases hS x hx with e | e
    · exact .inl (by simp [e.1])
    · exact .inr e
  · rw [ownBlock_slice] at hx
    rcases hS x hm with e | e
    · exact ha x (by simp [e.1]) hx
    · have := hl.2 x hx; omega
/-- the shards as a slice -/
theorem MSt.ri {S T : List Nat} {lo b : Nat} {g : Option Nat} {ver : Nat} {sh : List (List Int)} {done : Int} {w : World} (h : MSt T lo b g ver sh done w) (hS : ∀ x ∈ S, x ∈ b :: T ∨ x < lo ∨ w.heap.size ≤ x) :
    ∃ A c, w.heap[b]? = some (.cells #[.int .i64 (ver : Int), .slice A sh.length c, .int .i64 done] 77 (0, 0)) ∧ Ri S w A sh ∧ sh.length ≤ c ∧ c ≤ 9223372036854775807 ∧ (A = none → c = 0) := by
  have ha := h.apart
  obtain ⟨A, c, h1, rfl, h3⟩ := h.blk
  obtain ⟨A', c', hv, a1, a2, a3, _⟩ := h3.form
  cases hv
  refine ⟨A, c, h1, h3.ri (fun x hx => ?_), a1, a2, a3⟩
  rcases hS x hx with e | e
  · exact .inl ⟨e, ha x e⟩
  · exact .inr e

def DoesPost (T : List Nat) (lo b : Nat) (g : Option Nat) (ver : Nat) (sh : List (List Int)) (done : Int) (xs : List Int) (w : World) (e : Ending) (w' : World) : Prop :=
  ∃ g', e = .returned (.int .i64 (mDo ver sh xs).2.2) ∧ MSt T lo b g' (mDo ver sh xs).1 (mDo ver sh xs).2.1 done w' ∧ At w.heap.size g g' ∧ Kp (b :: g.toList) w w'
theorem DoesPost.err {T : List Nat} {lo b : Nat} {g : Option Nat} {ver : Nat} {sh : List (List Int)} {done z : Int} {xs : List Int} {w w' : World} (h : mDo ver sh xs = (ver, sh, z)) (hm : MSt T lo b g ver sh done w') (k : Kp [] w w') : DoesPost T lo b g ver sh done xs w (.returned (.int .i64 z)) w' :=
  ⟨g, by rw [h], by rw [h]; exact hm, At.refl _ _, k.mono (by simp)⟩
/-- a new map -/
theorem DoesPost.first {T : List Nat} {lo b lo2 : Nat} {g : Option Nat} {ver : Nat} {sh l : List (List Int)} {S : List Nat} {done : Int} {xs : List Int} {w w' : World} {A : Option Addr} {n c : Nat} (h : mDo ver sh xs = (1, l, 0)) (hl : l ≠ []) (hm : MSt T lo b g ver sh done w') (k : Kp [] w w') (hlo : lo ≤ w.heap.size) (hT : ∀ x ∈ T, x < w.heap.size) (hb : b < w.heap.size) (hn : l.length = n)
    (ho : OwnL S w' lo2 (.slice A n c) l) (h2 : w.heap.size ≤ lo2) : (∃ x, w'.cell? ⟨b, 0, none⟩ = some x) ∧ (∃ x, w'.cell? ⟨b, 1, none⟩ = some x) ∧ w'.frozen? ⟨b, 0, none⟩ = false ∧ w'.frozen? ⟨b, 1, none⟩ = false ∧
      DoesPost T lo b g ver sh done xs w (.returned (.int .i64 0)) ((w'.setCell ⟨b, 0, none⟩ (.int .i64 1)).setCell ⟨b, 1, none⟩ (.slice A n c)) := by
  subst hn
  obtain ⟨A0, c0, h1, _, _⟩ := hm.blk
  have k1 : Kp [b] w' ((w'.setCell ⟨b, 0, none⟩ (.int .i64 1)).setCell ⟨b, 1, none⟩ (.slice A l.length c)) := ((Kp.refl _ w').setCell (.inl (by simp)) _).setCell (.inl (by simp)) _
  have e1 := heap_setCell_same w' b 0 _ _ (.int .i64 1) h1
  have e2 := heap_setCell_same _ b 1 _ _ (.slice A l.length c) e1
  have hf := ho.form
  have hw' := k.size
  obtain ⟨A', c', hv, _, _, _, hA⟩ := hf
  cases hv
  have hlo2 : ∀ a, A = some a → lo2 ≤ a.block ∧ a.block < w'.heap.size := hA
  have hne : ∀ x ∈ b :: T, A.map Addr.block ≠ some x := by
    intro x hx e
    have hxl : x < w.heap.size := by
      rcases List.mem_cons.1 hx with rfl | hx
      · exact hb
      · exact hT x hx
    cases A with
    | none => cases e
    | some a => have := (hlo2 a rfl).1; have : a.block = x := by simpa using e
                omega
  refine ⟨⟨_, blk_cell h1 0 rfl⟩, ⟨_, blk_cell h1 1 rfl⟩, blk_free h1 0, blk_free h1 1, A.map Addr.block, by rw [h], ?_, ?_, ?_⟩
  · rw [h]
    have ho2 : OwnL (b :: T) w' lo2 (.slice A l.length c) l := ho.kp (Kp.refl [] w') (by simp) (by simp) (fun x hx => .inr (.inl (by
      rcases List.mem_cons.1 hx with rfl | hx
      · omega
      · have := hT x hx; omega)))
    exact ⟨⟨A, c, e2, rfl, (ho2.kp k1 (fun x hx => .inl (by simp at hx; simp [hx])) (fun y hy hm => by
      rw [ownBlock_slice] at hy
      simp at hm
      exact hne b (by simp) (by rw [hy, hm])) (fun x hx => .inl hx)).lower (by omega)⟩, hne⟩
  · cases A with
    | none =>
      obtain ⟨vs, o1, _⟩ := ho
      obtain ⟨_, _, hv, ha, _, _, hz⟩ := own_rd o1
      cases hv
      have := hz rfl
      exact absurd (List.eq_nil_of_length_eq_zero (by omega)) hl
    | some a => exact .inr ⟨a.block, rfl, by have := (hlo2 a rfl).1; omega⟩
  · exact (k.mono (T := b :: g.toList) (by simp)).trans k1 (by intro x hx; simp at hx; simp [hx])
/-- a shard's new nodes -/
theorem DoesPost.moved {T : List Nat} {lo b g ver n n1 c : Nat} {sh : List (List Int)} {l : List Int} {u : Value} {done : Int} {xs : List Int} {w w' : World} (h : mDo ver sh xs = (ver + 1, sh.set n1 l, 0)) (hm : MSt T lo b (some g) ver sh done w') (k : Kp [] w w') (hlo : lo ≤ w.heap.size) (hT : ∀ x ∈ T, x < w.heap.size) (hb : b < w.heap.size) (hg : g < w.heap.size)
    (hn : sh.length = n) (hj : n1 < n) (hc : w'.heap[b]? = some (.cells #[.int .i64 (ver : Int), .slice (some ⟨g, 0, none⟩) n c, .int .i64 done] 77 (0, 0))) (hu : Own 3 .i64 w' w.heap.size u l) :
    (∃ x, w'.cell? ⟨g, n1, none⟩ = some x) ∧ w'.frozen? ⟨g, n1, none⟩ = false ∧ (w'.setCell ⟨g, n1, none⟩ u).cell? ⟨b, 0, none⟩ = some (.int .i64 (ver : Int)) ∧ (w'.setCell ⟨g, n1, none⟩ u).frozen? ⟨b, 0, none⟩ = false ∧
      DoesPost T lo b (some g) ver sh done xs w (.returned (.int .i64 0)) ((w'.setCell ⟨g, n1, none⟩ u).setCell ⟨b, 0, none⟩ (.int .i64 ((ver : Int) + 1))) := by
  subst hn
  have ha := hm.apart
  obtain ⟨A0, c0, h1, h2, h3⟩ := hm.blk
  rw [hc] at h1
  cases h1
  have hgb : g ≠ b := fun e => ha b (by simp) (by rw [e])
  obtain ⟨a1, a2, a3⟩ := h3.set hj (hu.lower hlo) (fun q hq => by
    have := (hu.lt hq).1
    refine ⟨fun hmm => ?_, by omega⟩
    rcases List.mem_cons.1 hmm with rfl | hmm
    · omega
    · have := hT q hmm; omega)
  have kg : Kp [g] w' (w'.setCell ⟨g, n1, none⟩ u) := (Kp.refl _ w').setCell (.inl (by simp)) u
  have hc2 := kg.blk hc (by simp; exact fun e => hgb e.symm)
  have kb : Kp [b] (w'.setCell ⟨g, n1, none⟩ u) ((w'.setCell ⟨g, n1, none⟩ u).setCell ⟨b, 0, none⟩ (.int .i64 ((ver : Int) + 1))) := (Kp.refl _ _).setCell (.inl (by simp)) _
  have e1 := heap_setCell_same (w'.setCell ⟨g, n1, none⟩ u) b 0 _ _ (.int .i64 ((ver : Int) + 1)) hc2
  refine ⟨a1, a2, blk_cell hc2 0 rfl, blk_free hc2 0, some g, by rw [h], ?_, At.refl _ _, ?_⟩
  · rw [h]
    refine ⟨⟨some ⟨g, 0, none⟩, c, ?_, rfl, ?_⟩, ha⟩
    · rw [List.length_set]
      have : ((ver + 1 : Nat) : Int) = (ver : Int) + 1 := by omega
      dsimp only
      rw [this]
      exact e1
    · rw [List.length_set]
      exact a3.kp kb (fun x hx => .inl (by simp at hx; simp [hx])) (fun y hy hmm => by
        have e9 : y = g := by simpa [Value.ownBlock] using hy.symm
        simp at hmm
        exact hgb (by rw [← e9, hmm])) (fun x hx => .inl hx)
  · exact ((k.mono (T := b :: (some g).toList) (by simp)).trans kg (by intro x hx; simp at hx; simp [hx])).trans kb (by intro x hx; simp at hx; simp [hx])
end Go.Proofs.Ytiabdeciadfiiaa.man
