/- haystackref24.New of groups. -/
import Derived.Test.YtdiljpdohmeceaaGreatCrN
import Derived.Test.YtdiljpdohmeceaaGreatCoN
import Derived.Deep.RegionLaw
namespace Go.Proofs.YtdiljpdohmeceaaGreat.co.cr
open Go.RowKit H O opk frame wir

def firsts (l : List (List Int)) (k : Nat) : List Int := (List.range k).map fun i => (l.getD i []).getD 0 0
theorem firsts_len (l : List (List Int)) (k : Nat) : (firsts l k).length = k := by simp [firsts]
theorem firsts_succ (l : List (List Int)) (k : Nat) : firsts l (k + 1) = firsts l k ++ [(l.getD k []).getD 0 0] := by simp [firsts, List.range_succ]
theorem whomN_new (cf : Cfg) : whomN cf (newCs cf.shards.length).whom = firsts cf.shards cf.shards.length := by
  unfold whomN firsts dest newCs
  apply List.map_congr_left
  intro i hi
  have : i < cf.shards.length := List.mem_range.1 hi
  simp [List.getD, this]
/-- inside New's loop -/
structure NewR (w : World) (id pat tr : Nat) (b k m : Nat) (l : List (List Int)) (wr : World) (VS VW : Value) : Prop where
  blk : wr.heap[b]? = some (.cells #[.int .i64 (id : Int), .int .i64 (pat : Int), .int .i64 (tr : Int), VS, VW, .slice none 0 0, .int .i64 0, .slice none 0 0, .int .i64 0, .slice none 0 0] 136 (0, 0))
  sh : OwnL (b :: VW.ownBlock.toList) wr w.heap.size VS (l.take k)
  gv : ∀ g, VS.ownBlock = some g → g ≠ b ∧ VW.ownBlock ≠ some g
  wh : wr.ownsRow 0 3 1 VW m (iv .i64 (firsts l m))
  gw : ∀ g, VW.ownBlock = some g → g ≠ b ∧ w.heap.size ≤ g
  kp : Kp [] w wr
  lo : w.heap.size ≤ b
theorem NewR.drewN {w wr : World} {id pat tr b k m : Nat} {l : List (List Int)} {VS VW : Value} (h : NewR w id pat tr b k m l wr VS VW) {w2 : World} (k2 : Kp [] wr w2) : NewR w id pat tr b k m l w2 VS VW :=
  ⟨k2.blk h.blk (by simp), h.sh.kp k2 (by simp) (by simp) (fun x hx => .inl hx), h.gv, k2.own h.wh (by simp), h.gw, h.kp.trans k2 (by simp), h.lo⟩
/-- a shard's row comes on -/
theorem NewR.row {w wr w2 w3 : World} {id pat tr b k j m : Nat} {l : List (List Int)} {VS VW : Value} (h : NewR w id pat tr b k j l wr VS VW) {x : List Int} {us : List Value} {A2 : Option Addr} {c2 : Nat} {v3 : Value} (hk : k < l.length) (hx : x = l[k])
    (hu : ∀ wX, Kp [] wr wX → wX.ownsRow 0 53 1 VS k us) (k2 : Kp [] wr w2) (o2 : Own 3 .i64 w2 wr.heap.size (.slice A2 m c2) x) (o3 : w3.ownsRow 0 53 1 v3 (k + 1) (us ++ [.slice A2 m c2]))
    (k3 : Kp VS.ownBlock.toList (w2.alloc (.cells #[.slice A2 m c2] 53)) w3) (a3 : At (w2.heap.size + 1) VS.ownBlock v3.ownBlock) :
    w3.cell? ⟨b, 3, none⟩ = some VS ∧ w3.frozen? ⟨b, 3, none⟩ = false ∧ NewR w id pat tr b (k + 1) j l (w3.setCell ⟨b, 3, none⟩ v3) v3 VW := by
  have hov := h.gv
  have hsz := h.kp.size
  have hs2 := k2.size
  have hbl := lt_of_block h.blk
  have hvb : b ∉ VS.ownBlock.toList := by
    intro e
    exact (hov _ (by simpa using e)).1 rfl
  have hb3 := k3.blk (blk_alloc (k2.blk h.blk (by simp)) _) hvb
  have hu2 : Own 3 .i64 w2 w.heap.size (.slice A2 m c2) x := o2.lower hsz
  have hlk : (l.take k).length = k := by rw [List.length_take]; omega
  have hwl : ∀ g, VW.ownBlock = some g → g < wr.heap.size := fun g e => own_lt h.wh g e
  have hvl : ∀ g, VS.ownBlock = some g → w.heap.size ≤ g ∧ g < wr.heap.size := by
    obtain ⟨us', ho, hlo, _⟩ := h.sh
    exact fun g e => ⟨hlo g e, own_lt ho g e⟩
  have hsnoc : OwnL (b :: VW.ownBlock.toList) w3 w.heap.size v3 (l.take k ++ [x]) := by
    have kA : Kp [] wr (w2.alloc (.cells #[.slice A2 m c2] 53)) := k2.alloc _
    have hL : OwnL (b :: VW.ownBlock.toList) (w2.alloc (.cells #[.slice A2 m c2] 53)) w.heap.size VS (l.take k) := h.sh.kp kA (by simp) (by simp) (fun x hx => .inl hx)
    have kB : Kp [] w2 (w2.alloc (.cells #[.slice A2 m c2] 53)) := (Kp.refl [] w2).alloc _
    refine OwnL.snoc hlk hL (hu _ kA) (hu2.kp kB (by simp)) (fun y hy => ⟨fun hm => ?_, fun e => ?_⟩) o3 k3 (by simpa using a3) (by simp; omega)
    · have h8 := o2.2 y hy
      rcases List.mem_cons.1 hm with e | e
      · omega
      · have := hwl y (by simpa using e)
        omega
    · have h8 := o2.2 y hy
      have h9 := hvl y e
      omega
  have htk : l.take (k + 1) = l.take k ++ [x] := by rw [hx]; exact List.take_succ_eq_append_getElem hk
  have kS : Kp [b] w3 (w3.setCell ⟨b, 3, none⟩ v3) := (Kp.refl _ w3).setCell (.inl (by simp)) _
  have hgv3 : ∀ g, v3.ownBlock = some g → g ≠ b ∧ VW.ownBlock ≠ some g := by
    intro g e
    rcases a3 with e2 | ⟨y, e2, hy⟩
    · rw [e2] at e; exact hov g e
    · rw [e2] at e
      cases e
      refine ⟨by omega, fun e => ?_⟩
      have := hwl _ e
      omega
  have kAll : Kp [] w w3 := (h.kp.trans (k2.alloc _) (by simp)).trans k3 (fun y hy => .inr (by
    have h8 : VS.ownBlock = some y := by simpa using hy
    exact (hvl y h8).1))
  have hlo2 := h.lo
  refine ⟨blk_cell hb3 3 rfl, blk_free hb3 3, ⟨heap_setCell_same w3 b 3 _ _ v3 hb3, ?_, hgv3, ?_, h.gw, kAll.trans kS (by intro y hy; simp at hy; omega), hlo2⟩⟩
  · rw [htk]
    refine hsnoc.kp kS (fun y hy => .inl (by simp at hy; simp [hy])) (fun g e hm => ?_) (fun x hx => .inl hx)
    simp at hm
    exact (hgv3 g e).1 hm
  · refine kS.own (k3.own ((k2.alloc _).own h.wh (by simp)) (fun g e hm => ?_)) (fun g e hm => ?_)
    · exact (hov g (by simpa using hm)).2 e
    · simp at hm
      exact (h.gw g e).1 hm
/-- whom to ask comes on -/
theorem NewR.first {w wr w3 : World} {id pat tr b k j : Nat} {l : List (List Int)} {VS VW : Value} (h : NewR w id pat tr b k j l wr VS VW) {y : Int} {v3 : Value} (hy : (l.getD j []).getD 0 0 = y) {t : TypeId}
    (o3 : w3.ownsRow 0 3 1 v3 (j + 1) (iv .i64 (firsts l j) ++ [.int .i64 y])) (k3 : Kp VW.ownBlock.toList (wr.alloc (.cells #[.int .i64 y] t)) w3) (a3 : At (wr.heap.size + 1) VW.ownBlock v3.ownBlock) :
    w3.cell? ⟨b, 4, none⟩ = some VW ∧ w3.frozen? ⟨b, 4, none⟩ = false ∧ NewR w id pat tr b k (j + 1) l (w3.setCell ⟨b, 4, none⟩ v3) VS v3 := by
  have hsz := h.kp.size
  have hbl := lt_of_block h.blk
  have hvb : b ∉ VW.ownBlock.toList := by
    intro e
    exact (h.gw _ (by simpa using e)).1 rfl
  have hb3 := k3.blk (blk_alloc h.blk _) hvb
  have hwl : ∀ g, VW.ownBlock = some g → g < wr.heap.size := fun g e => own_lt h.wh g e
  have hvl : ∀ g, VS.ownBlock = some g → w.heap.size ≤ g ∧ g < wr.heap.size := by
    obtain ⟨us', ho, hlo, _⟩ := h.sh
    exact fun g e => ⟨hlo g e, own_lt ho g e⟩
  have kA : Kp VW.ownBlock.toList wr w3 := ((Kp.refl VW.ownBlock.toList wr).alloc _).trans k3 (fun x hx => .inl hx)
  have kS : Kp [b] w3 (w3.setCell ⟨b, 4, none⟩ v3) := (Kp.refl _ w3).setCell (.inl (by simp)) _
  have hgw3 : ∀ g, v3.ownBlock = some g → g ≠ b ∧ w.heap.size ≤ g := by
    intro g e
    rcases a3 with e2 | ⟨y, e2, hy⟩
    · rw [e2] at e; exact h.gw g e
    · rw [e2] at e
      cases e
      omega
  have hlo2 := h.lo
  refine ⟨blk_cell hb3 4 rfl, blk_free hb3 4, ⟨heap_setCell_same w3 b 4 _ _ v3 hb3, ?_, ?_, ?_, hgw3, ?_, hlo2⟩⟩
  · have h1 : OwnL (b :: v3.ownBlock.toList) w3 w.heap.size VS (l.take k) := by
      refine h.sh.kp kA (fun x hx => .inl (List.mem_cons_of_mem _ hx)) (fun g e hm => (h.gv g e).2 (by simpa using hm)) (fun x hx => ?_)
      rcases List.mem_cons.1 hx with e | e
      · exact .inl (by simp [e])
      · rcases a3 with e2 | ⟨y, e2, hy⟩
        · rw [e2] at e; exact .inl (List.mem_cons_of_mem _ e)
        · rw [e2] at e
          simp at e
          omega
    exact h1.kp kS (fun y hy => .inl (by simp at hy; simp [hy])) (fun g e hm => by simp at hm; exact (h.gv g e).1 hm) (fun x hx => .inl hx)
  · intro g e
    refine ⟨(h.gv g e).1, fun e3 => ?_⟩
    rcases a3 with e2 | ⟨y, e2, hy⟩
    · rw [e2] at e3; exact (h.gv g e).2 e3
    · rw [e2] at e3
      cases e3
      have := hvl _ e
      omega
  · have e : iv .i64 (firsts l (j + 1)) = iv .i64 (firsts l j) ++ [.int .i64 y] := by rw [firsts_succ, hy, iv_app]; rfl
    rw [e]
    exact kS.own o3 (fun g e hm => by simp at hm; exact (hgw3 g e).1 hm)
  · exact (h.kp.trans kA (fun x hx => .inr ((h.gw x (by simpa using hx)).2))).trans kS (by intro y hy; simp at hy; omega)
theorem NewR.fin {w wr : World} {id pat tr n b : Nat} {l : List (List Int)} {VS VW : Value} (h : NewR w id pat tr b n n l wr VS VW) (hn : l.length = n) (h1 : 1 ≤ n) : ∃ L, L.b = b ∧ (∀ x ∈ L.all, w.heap.size ≤ x) ∧ ∀ (U : List Nat) (_ : ∀ x ∈ U, x < w.heap.size),
    RsSt U wr L ⟨id, pat, tr, l⟩ (newCs n) := by
  subst hn
  obtain ⟨Aw, cw, rfl, hw1, _, _, hw2⟩ := own_rd h.wh
  obtain ⟨aw, rfl⟩ : ∃ a, Aw = some a := by
    cases Aw with
    | none => have := hw2 rfl; omega
    | some a => exact ⟨a, rfl⟩
  have hgw := h.gw aw.block rfl
  have hwl := own_lt h.wh aw.block rfl
  refine ⟨⟨b, aw.block, none, none, none⟩, rfl, fun x hx => ?_, fun U hU => ?_⟩
  · have := h.lo
    simp [RLay.all] at hx
    omega
  have hbl := lt_of_block h.blk
  have hlo := h.lo
  have e : l.take l.length = l := List.take_of_length_le (by omega)
  have hsh := h.sh
  rw [e] at hsh
  obtain ⟨A, c, rfl, h1, h2, h3, h4⟩ := hsh.form
  have hmem : ∀ x ∈ (⟨b, aw.block, none, none, none⟩ : RLay).all ++ U, x = b ∨ x = aw.block ∨ x < w.heap.size := by
    intro x hx
    rcases List.mem_append.1 hx with e | e
    · simp [RLay.all] at e
      rcases e with e | e
      · exact .inl e
      · exact .inr (.inl e)
    · exact .inr (.inr (hU x e))
  refine ⟨fun x => if x = b then 1 else if x = aw.block then 2 else 0, .slice A l.length c, .slice (some aw) l.length cw, .slice none 0 0, .slice none 0 0, .slice none 0 0,
    ⟨⟨by simp, hbl⟩, ⟨by show (if aw.block = b then 1 else if aw.block = aw.block then 2 else 0) = 2; rw [if_neg hgw.1, if_pos rfl], hwl⟩, fun x e => (by cases e), fun x e => (by cases e), fun x e => (by cases e), fun x hx => ?_⟩,
    h.blk, ⟨A, c, rfl, hsh.ri (fun x hx => ?_), h1, h2, h3⟩, ⟨?_, rfl⟩, ⟨[], [], rfl, World.ownsRow_nil _ 0 _ 3, rfl, rfl⟩, ⟨[], World.ownsRow_nil _ 0 _ 11, rfl, rfl⟩, ⟨[], World.ownsRow_nil _ 0 _ 6, rfl, rfl⟩⟩
  · have := hU x hx
    show (if x = b then 1 else if x = aw.block then 2 else 0) = 0 ∧ x < wr.heap.size
    rw [if_neg (by omega), if_neg (by omega)]
    exact ⟨rfl, by omega⟩
  · rcases hmem x hx with e | e | e
    · refine .inl ⟨by simp [e], fun e2 => ?_⟩
      exact (h.gv x (by rw [ownBlock_slice]; exact e2)).1 e
    · refine .inl ⟨by simp [e, Value.ownBlock], fun e2 => ?_⟩
      exact (h.gv x (by rw [ownBlock_slice]; exact e2)).2 (by rw [e]; rfl)
    · exact .inr (.inl e)
  · have e := whomN_new ⟨id, pat, tr, l⟩
    show World.ownsRow wr 0 3 1 (.slice (some aw) l.length cw) l.length (iv .i64 (whomN ⟨id, pat, tr, l⟩ (newCs l.length).whom))
    rw [show newCs l.length = newCs (Cfg.mk id pat tr l).shards.length from rfl, e]
    exact h.wh
end Go.Proofs.YtdiljpdohmeceaaGreat.co.cr
