/- coord: (*Coord).gives. -/
import Derived.Test.YtdiljpdohmeceaaGreatCoG
import Derived.Deep.RegionHeld3
import Derived.Deep.CutRange
namespace Go.Proofs.YtdiljpdohmeceaaGreat.co
open Go.RowKit H O opk frame wir

theorem Que.form2 {w : World} {v : Value} {g : Option Nat} {ps : List Nat} (h : Que w v g ps) : ∃ A c, v = .slice A ps.length c := by
  rcases h with ⟨_, rfl, rfl⟩ | ⟨b, o, c, cur, _, rfl, _⟩
  · exact ⟨none, 0, rfl⟩
  · exact ⟨_, c, rfl⟩
/-- a job's block, as it is made -/
def JobNew (w : World) (p : Nat) (j : Job) (tv dv : Value) : Prop :=
  w.heap[p]? = some (.cells #[.int .i64 0, .int .i64 0, .bool false, .bool false, .slice none 0 0, .slice none 0 0, .int .i64 (wkind j), .int .i64 (okind j), .int .i64 0, .int .i64 0, .string (okey j), tv, dv, .slice none 0 0] 92 (0, 0))
def GivesI (U : List Nat) (L : Lay) (cf : Cfg) (s' : Cs) (p : Nat) (w w' : World) : Prop := ∃ L', CoSt U w' L' cf s' ∧ L'.b = L.b ∧ (∀ x ∈ L'.all, x ∈ L.all ∨ x = p ∨ w.heap.size ≤ x) ∧ Kp (p :: L.all) w w'

set_option maxHeartbeats 8000000 in
set_option maxRecDepth 100000 in
theorem gives_any (U : List Nat) (w : World) (L : Lay) (cf : Cfg) (s : Cs) (j : Job) (p : Nat) (tv dv : Value) (hC : CoSt (p :: U) w L cf s) (hp : JobNew w p j tv dv) (htv : BSl (L.all ++ (p :: U)) w tv (otext j)) (hdv : BSl (L.all ++ (p :: U)) w dv (ddat j)) (hpu : p ∉ U) (hno : s.jobs = [] → s.asks = []) (hn : nextJ s ≤ 900000) :
    Calls Tryz.prog 28 #[.pointer (some ⟨L.b, 0, none⟩), .pointer (some ⟨p, 0, none⟩)] w fun e w' => e = .returned (.tuple #[.int .i64 (nextJ s : Int), .int .i64 0]) ∧ GivesI U L cf (gives s j) p w w' := by
  obtain ⟨κ, VS, VW, VJ, VD, MV, AV, l, h⟩ := hC
  obtain ⟨n, hn'⟩ : ∃ n, nextJ s = n := ⟨_, rfl⟩
  have hd := h.hd
  rw [hn'] at hd hn
  have hpb : ¬ p = L.b := by
    have h1 := h.sep.U p (by simp)
    have h2 := h.sep.b
    intro e
    rw [e] at h1
    omega
  have hbp : ¬ L.b = p := fun e => hpb e.symm
  have b0 : w.cell? ⟨L.b, 0, none⟩ = some (.int .i64 (cf.id : Int)) := blk_cell hd 0 rfl
  have b5 : w.cell? ⟨L.b, 5, none⟩ = some VJ := blk_cell hd 5 rfl
  have b6 : w.cell? ⟨L.b, 6, none⟩ = some (.int .i64 (n : Int)) := blk_cell hd 6 rfl
  have fb := blk_free hd 6
  have fb5 := blk_free hd 5
  have p0 : w.cell? ⟨p, 0, none⟩ = some (.int .i64 0) := blk_cell hp 0 rfl
  have p8 : w.cell? ⟨p, 8, none⟩ = some (.int .i64 0) := blk_cell hp 8 rfl
  have p9 : w.cell? ⟨p, 9, none⟩ = some (.int .i64 0) := blk_cell hp 9 rfl
  have fp0 := blk_free hp 0
  have fp8 := blk_free hp 8
  have fp9 := blk_free hp 9
  have i0 : (0 : Int) ≤ (n : Int) := by omega
  have i1 : (n : Int) ≤ 900000 := by omega
  have i2 : IntKind.i64.wrap ((n : Int) + 1) = (n : Int) + 1 := by rw [IntKind.wrap_i64]; omega
  obtain ⟨AJ, cJ, rfl⟩ := h.jq.form2
  obtain ⟨nJ, hnJ⟩ : ∃ n, L.js.length = n := ⟨_, rfl⟩
  rw [hnJ] at b5 hd
  have KX : As (∀ wX, Kp [p] w wX → wX.cell? ⟨L.b, 0, none⟩ = some (.int .i64 (cf.id : Int)) ∧ wX.cell? ⟨L.b, 6, none⟩ = some (.int .i64 (n : Int))) := ⟨fun wX kX => ⟨kX.cell b0 (by simpa using hbp), kX.cell b6 (by simpa using hbp)⟩⟩
  have H := As.mk h
  have HD := As.mk hd
  have HP := As.mk hp
  have HT := As.mk (And.intro htv hdv)
  have HN := As.mk hn'
  have HNJ := As.mk hnJ
  have HPU := As.mk (And.intro hpu hno)
  clear h hd hp htv hdv hn' hnJ hpu hno
  go_enter Tryz.func28, Tryz.ntmps28
  go_upto_region 2 with fail
  go_region_held3 (fun wX => wX.cell? ⟨L.b, 0, none⟩ = some (.int .i64 (cf.id : Int)) ∧ wX.cell? ⟨L.b, 6, none⟩ = some (.int .i64 (n : Int))) (first | exact KX.out _ (((Kp.refl [p] w).setCell (.inl (by simp)) _).drew) | exact KX.out _ (((Kp.refl [p] w).drew).setCell (.inl (by simp)) _) | exact KX.out _ ((((Kp.refl [p] w).setCell (.inl (by simp)) _).setCell (.inl (by simp)) _).drew) | exact KX.out _ (((((Kp.refl [p] w).setCell (.inl (by simp)) _).setCell (.inl (by simp)) _).setCell (.inl (by simp)) _).drew) | go_keep) (fail)
  obtain ⟨W2, hW2⟩ : ∃ W, W = (((w.setCell ⟨p, 0, none⟩ (.int .i64 (n : Int))).setCell ⟨p, 8, none⟩ (.int .i64 (cf.id : Int))).setCell ⟨p, 9, none⟩ (.int .i64 ((n : Int) + 1))).drew := ⟨_, rfl⟩
  rw [← hW2]
  have k2 : Kp [p] w W2 := by rw [hW2]; exact (((((Kp.refl [p] w).setCell (.inl (by simp)) _).setCell (.inl (by simp)) _).setCell (.inl (by simp)) _)).drew
  have hp2 : W2.heap[p]? = some (.cells #[.int .i64 (n : Int), .int .i64 0, .bool false, .bool false, .slice none 0 0, .slice none 0 0, .int .i64 (wkind j), .int .i64 (okind j), .int .i64 (cf.id : Int), .int .i64 ((n : Int) + 1), .string (okey j), tv, dv, .slice none 0 0] 92 (0, 0)) := by
    rw [hW2]
    exact heap_setCell_same _ p 9 _ _ (.int .i64 ((n : Int) + 1)) (heap_setCell_same _ p 8 _ _ (.int .i64 (cf.id : Int)) (heap_setCell_same _ p 0 _ _ (.int .i64 (n : Int)) HP.out))
  have hd2 := k2.blk HD.out (by simpa using hbp)
  obtain ⟨W3, hW3⟩ : ∃ W, W = W2.setCell ⟨L.b, 6, none⟩ (.int .i64 ((n : Int) + 1)) := ⟨_, rfl⟩
  have k3 : Kp [L.b] W2 W3 := by rw [hW3]; exact (Kp.refl _ W2).setCell (.inl (by simp)) _
  have hd3 := heap_setCell_same W2 L.b 6 _ _ (.int .i64 ((n : Int) + 1)) hd2
  rw [← hW3] at hd3
  have hp3 := k3.blk hp2 (by simpa using hpb)
  have hs3 : W3.heap.size = W2.heap.size := by rw [hW3]; simp
  have hs2 : W2.heap.size = w.heap.size := by rw [hW2]; simp [World.drew]
  have k23 : Kp (L.b :: p :: L.gj.toList) w W3 := (k2.mono (by simp)).trans k3 (by simp)
  have hgb : ∀ x, L.gj = some x → x ≠ L.b ∧ x ≠ p := fun x e => by
    have h1 := H.out.sep.gj x e
    have h2 := H.out.sep.b
    have h3 := H.out.sep.U p (by simp)
    exact ⟨fun e2 => by rw [e2] at h1; omega, fun e2 => by rw [e2] at h1; omega⟩
  have hq3 : Que W3 (.slice AJ nJ cJ) L.gj L.js := by
    have hq := H.out.jq
    rw [HNJ.out] at hq
    refine (hq.kp k2 (fun x e hm => ?_)).kp k3 (fun x e hm => ?_)
    · simp at hm; exact (hgb x e).2 hm
    · simp at hm; exact (hgb x e).1 hm
  have HQ3 : As (Que (W3.alloc (.cells #[ptr p] 88)) (.slice AJ nJ cJ) L.gj L.js) := ⟨hq3.kp ((Kp.refl [] W3).alloc _) (by simp)⟩
  have hlen : L.js.length + 1 ≤ 1000000 := by
    have h1 := H.out.jl
    have h2 := HN.out
    unfold nextJ at h2
    omega
  have HFIN : As (∀ v7 w7 g7, Que w7 v7 g7 (L.js ++ [p]) → Kp L.gj.toList (W3.alloc (.cells #[ptr p] 88)) w7 → At (W3.heap.size + 1) L.gj g7 → 
      w7.cell? ⟨L.b, 5, none⟩ = some (.slice AJ nJ cJ) ∧ w7.frozen? ⟨L.b, 5, none⟩ = false ∧ w7.cell? ⟨p, 0, none⟩ = some (.int .i64 (n : Int)) ∧ As (GivesI U L cf (gives s j) p w (w7.setCell ⟨L.b, 5, none⟩ v7))) := ⟨by
    intro v7 w7 g7 q7 k7 a7
    have nb : L.b ∉ L.gj.toList := fun e => (hgb L.b (by simpa using e)).1 rfl
    have np : p ∉ L.gj.toList := fun e => (hgb p (by simpa using e)).2 rfl
    have hd7 := k7.blk (blk_alloc hd3 _) nb
    have hp7 := k7.blk (blk_alloc hp3 _) np
    have kS : Kp [L.b] w7 (w7.setCell ⟨L.b, 5, none⟩ v7) := (Kp.refl _ w7).setCell (.inl (by simp)) _
    have hdS : (w7.setCell ⟨L.b, 5, none⟩ v7).heap[L.b]? = _ := heap_setCell_same w7 L.b 5 _ _ v7 hd7
    have hpS := kS.blk hp7 (by simpa using hpb)
    have kF : Kp (L.b :: p :: L.gj.toList) w (w7.setCell ⟨L.b, 5, none⟩ v7) := ((k23.alloc _).trans k7 (fun x hx => .inl (by simp [hx]))).trans kS (by simp)
    have hat : ∀ x, g7 = some x → L.gj = some x ∨ w.heap.size ≤ x := by
      intro x e
      rcases a7 with e2 | ⟨y, e2, hy⟩
      · exact .inl (e2.symm.trans e)
      · rw [e2] at e
        cases e
        exact .inr (by omega)
    have hbl := H.out.sep.b
    have hqS : Que (w7.setCell ⟨L.b, 5, none⟩ v7) v7 g7 (L.js ++ [p]) := q7.kp kS (fun x e hm => by
      simp at hm
      rcases hat x e with e2 | e2
      · exact (hgb x e2).1 hm
      · omega)
    have hV : ∀ x ∈ L.b :: p :: L.gj.toList, x ∈ L.all ++ (p :: U) ∨ w.heap.size ≤ x := by
      intro x hx
      refine .inl (List.mem_append.2 ?_)
      rcases List.mem_cons.1 hx with rfl | hx
      · exact .inl (Lay.mem.2 (by simp))
      · rcases List.mem_cons.1 hx with rfl | hx
        · exact .inr (by simp)
        · exact .inl (Lay.mem.2 (by have : L.gj = some x := by simpa using hx
                                    simp [this]))
    obtain ⟨L', q1, q2, q3⟩ := H.out.more (j := j) HPU.out.1 HPU.out.2 kF (by rw [HN.out]; exact hdS) hqS hat (fun S2 hS2 => ⟨tv, dv, by rw [HN.out]; exact hpS, HT.out.1.kp kF hV hS2, HT.out.2.kp kF hV hS2⟩)
    refine ⟨blk_cell hd7 5 rfl, blk_free hd7 5, blk_cell hp7 0 rfl, ⟨L', q1, q2, q3, kF.mono (fun x hx => .inl ?_)⟩⟩
    rcases List.mem_cons.1 hx with rfl | hx
    · exact List.mem_cons_of_mem _ (Lay.mem.2 (by simp))
    · rcases List.mem_cons.1 hx with rfl | hx
      · simp
      · exact List.mem_cons_of_mem _ (Lay.mem.2 (by have : L.gj = some x := by simpa using hx
                                                    simp [this]))⟩
  have c5 : W2.cell? ⟨L.b, 5, none⟩ = some (.slice AJ nJ cJ) := blk_cell hd2 5 rfl
  have c6 : W2.cell? ⟨L.b, 6, none⟩ = some (.int .i64 (n : Int)) := blk_cell hd2 6 rfl
  have g5 := blk_free hd2 5
  have g6 := blk_free hd2 6
  have HW3 := As.mk hW3
  have HLIT : As ((W3.alloc (.cells #[ptr p] 88)).cell? ⟨W2.heap.size, 0, none⟩ = some (ptr p)) := ⟨by rw [← hs3]; exact blk_cell (heap_alloc_new W3 _) 0 rfl⟩
  clear hW2 k2 hp2 hd2 hW3 k3 hd3 hp3 hs3 hs2 k23 hgb hq3 b0 b5 b6 fb fb5 p0 p8 p9 fp0 fp8 fp9
  go_wp2_with (at_builtin; rw [← HW3.out]; refine wpList_que rfl (.tmp 42) (.tmp 44) rfl (.slice AJ nJ cJ) L.gj L.js rfl HQ3.out W2.heap.size p rfl HLIT.out hlen ?_; intro v7 w7 g7 q7 k7 a7 _; obtain ⟨A7, c7, rfl⟩ := q7.form2; obtain ⟨y0, y1, y2, HZ⟩ := HFIN.out _ w7 g7 q7 k7 (by simpa using a7); clear q7 k7 a7)
  go_ret2
  have h := HZ.out
  simp only [List.length_append, List.length_singleton] at h
  refine ⟨?_, h⟩
  rw [HN.out]
  rfl
end Go.Proofs.YtdiljpdohmeceaaGreat.co
