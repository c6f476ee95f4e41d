/- haystackref24: a job comes on: add. -/
import Derived.Test.YtdiljpdohmeceaaGreatCrI
namespace Go.Proofs.YtdiljpdohmeceaaGreat.co.cr
open Go.RowKit H O opk frame wir

theorem info_rjob : (Tryz.prog.info? 168).map (fun i => (i.zero, i.size, i.bytes)) = some (some (.agg #[.int .i64 0, .string ByteArray.empty, .slice none 0 0]), 3, 48) := by kernel_rfl
theorem RsP.more {U : List Nat} {w w3 w7 : World} {L : RLay} {cf : Cfg} {s : Cs} {κ : Nat → Nat} {VS VW VL VA VD v7 tv : Value} {vs : List Value} {obj : Obj} {pj : List Job} (h : RsP U w L cf s κ VS VW VL VA VD) (j : Job) (hpj : pj.length = s.ended)
    (hj : RjOk (L.all ++ U) w (pj ++ s.jobs) vs) (k3 : Kp [] w w3) (hB : BSl (L.all ++ U) w3 tv j.text) (hgl : VL.ownBlock = L.gL)
    (o7 : w7.ownsRow 0 168 3 v7 (s.ended + s.jobs.length + 1) (vs ++ [.int .i64 (j.kind : Int), .string j.key, tv])) (k7 : Kp VL.ownBlock.toList (w3.alloc obj) w7) (a7 : At (w3.heap.size + 1) VL.ownBlock v7.ownBlock) :
    w7.cell? ⟨L.b, 5, none⟩ = some VL ∧ w7.frozen? ⟨L.b, 5, none⟩ = false ∧ ∃ κ2, RsP U (w7.setCell ⟨L.b, 5, none⟩ v7) { L with gL := v7.ownBlock } cf (gives s j) κ2 VS VW v7 VA VD := by
  have hsep := h.sep
  have hs3 := k3.size
  have hbl := lt_of_block h.hd
  have hvl : ∀ g, VL.ownBlock = some g → κ g = 3 ∧ g < w.heap.size := fun g e => hsep.gL g (by rw [← hgl]; exact e)
  have nb : L.b ∉ VL.ownBlock.toList := fun e => by
    have e : VL.ownBlock = some L.b := by simpa using e
    have := hvl _ e
    have := hsep.b
    omega
  have kA : Kp VL.ownBlock.toList w3 w7 := ((Kp.refl VL.ownBlock.toList w3).alloc _).trans k7 (fun x hx => .inl hx)
  have hb7 := kA.blk (k3.blk h.hd (by simp)) nb
  have kS : Kp [L.b] w7 (w7.setCell ⟨L.b, 5, none⟩ v7) := (Kp.refl _ w7).setCell (.inl (by simp)) _
  have kB : Kp (L.b :: VL.ownBlock.toList) w3 (w7.setCell ⟨L.b, 5, none⟩ v7) := (kA.mono (fun x hx => .inl (List.mem_cons_of_mem _ hx))).trans kS (fun x hx => .inl (by simp at hx; simp [hx]))
  have kT : Kp (L.b :: VL.ownBlock.toList) w (w7.setCell ⟨L.b, 5, none⟩ v7) := (k3.mono (fun x hx => by simp at hx)).trans kB (fun x hx => .inl hx)
  have ne : ∀ x c, κ x = c → c ≠ 1 → c ≠ 3 → x ∉ L.b :: VL.ownBlock.toList := fun x c hx h1 h3 hm => by
    rcases List.mem_cons.1 hm with e | e
    · subst e; have := hsep.b; omega
    · have := hvl x (by simpa using e); omega
  have hv7 : ∀ g, v7.ownBlock = some g → (VL.ownBlock = some g) ∨ w3.heap.size < g := fun g e => by
    rcases a7 with e2 | ⟨y, e2, hy⟩
    · rw [e2] at e; exact .inl e
    · rw [e2] at e
      cases e
      exact .inr (by omega)
  have hVm : ∀ x ∈ L.b :: VL.ownBlock.toList, x ∈ L.all ++ U := fun x hx => by
    rcases List.mem_cons.1 hx with e | e
    · exact List.mem_append.2 (.inl (RLay.mem.2 (.inl e)))
    · exact List.mem_append.2 (.inl (RLay.mem.2 (.inr (.inr (.inl (by rw [← hgl]; simpa using e))))))
  have hS0 : ∀ x ∈ ({ L with gL := v7.ownBlock } : RLay).all ++ U, x ∈ L.all ++ U ∨ w3.heap.size < x := fun x hx => by
    rcases List.mem_append.1 hx with e | e
    · rcases RLay.mem.1 e with e | e | e | e | e
      · exact .inl (List.mem_append.2 (.inl (RLay.mem.2 (.inl e))))
      · exact .inl (List.mem_append.2 (.inl (RLay.mem.2 (.inr (.inl e)))))
      · rcases hv7 x e with e | e
        · exact .inl (List.mem_append.2 (.inl (RLay.mem.2 (.inr (.inr (.inl (by rw [← hgl]; exact e)))))))
        · exact .inr e
      · exact .inl (List.mem_append.2 (.inl (RLay.mem.2 (.inr (.inr (.inr (.inl e)))))))
      · exact .inl (List.mem_append.2 (.inl (RLay.mem.2 (.inr (.inr (.inr (.inr e)))))))
    · exact .inl (List.mem_append.2 (.inr e))
  have hS' : ∀ x ∈ ({ L with gL := v7.ownBlock } : RLay).all ++ U, x ∈ L.all ++ U ∨ w.heap.size ≤ x := fun x hx => (hS0 x hx).imp id (fun e => by omega)
  have hV' : ∀ x ∈ L.b :: VL.ownBlock.toList, x ∈ L.all ++ U ∨ w.heap.size ≤ x := fun x hx => .inl (hVm x hx)
  have h7 : w3.heap.size + 1 ≤ w7.heap.size := by have := k7.size; simpa using this
  have lo : ∀ x c, κ x = c ∧ x < w.heap.size → (if x < w.heap.size then κ x else if v7.ownBlock = some x then 3 else 0) = c ∧ x < (w7.setCell ⟨L.b, 5, none⟩ v7).heap.size := fun x c hx => by
    rw [if_pos hx.2]
    exact ⟨hx.1, by simp; omega⟩
  refine ⟨blk_cell hb7 5 rfl, blk_free hb7 5, fun x => if x < w.heap.size then κ x else if v7.ownBlock = some x then 3 else 0,
    ⟨lo _ _ hsep.b, lo _ _ hsep.gw, fun x e => ?_, fun x e => lo _ _ (hsep.ga x e), fun x e => lo _ _ (hsep.gd x e), fun x e => lo _ _ (hsep.U x e)⟩,
    heap_setCell_same w7 L.b 5 _ _ v7 hb7, h.sh.kp kT hV' hS', ⟨kT.own h.wh.1 (fun x e => by rw [h.wh.2] at e; cases e; exact ne _ 2 hsep.gw.1 (by decide) (by decide)), h.wh.2⟩, ⟨pj, vs ++ [.int .i64 (j.kind : Int), .string j.key, tv], hpj, ?_, ?_, rfl⟩, ?_,
    h.dn.kp kT (fun x e => ne _ _ (hsep.gd x e).1 (by decide) (by decide)) hV' hS'⟩
  · have e : v7.ownBlock = some x := e
    have hx : x < w7.heap.size := own_lt o7 x e
    rcases hv7 x e with e2 | e2
    · exact lo _ _ (hvl x e2)
    · show (if x < w.heap.size then κ x else if v7.ownBlock = some x then 3 else 0) = 3 ∧ x < (w7.setCell ⟨L.b, 5, none⟩ v7).heap.size
      rw [if_neg (by omega), if_pos e]
      exact ⟨rfl, by simp; exact hx⟩
  · have e : (gives s j).ended + (gives s j).jobs.length = s.ended + s.jobs.length + 1 := by simp [gives]; omega
    rw [e]
    refine kS.own o7 (fun x e hm => ?_)
    simp at hm
    subst hm
    rcases hv7 _ e with e2 | e2
    · exact nb (by simpa using e2)
    · omega
  · show RjOk _ _ (pj ++ (s.jobs ++ [j])) _
    rw [← List.append_assoc]
    exact RjOk.snoc (hB.kp kB (fun x hx => .inl (hVm x hx)) (fun x hx => (hS0 x hx).imp id (fun e => by omega))) (hj.kp kT hV' hS')
  · obtain ⟨us, a1, a2, a3⟩ := h.aq
    exact ⟨us, kT.own a1 (fun x e => ne _ _ (hsep.ga x (by rw [← a3]; exact e)).1 (by decide) (by decide)), a2.kp kT hV' hS', a3⟩

/-- a job came on -/
def RNewJ (U : List Nat) (L : RLay) (cf : Cfg) (n e : Int) (s' : Cs) (w : World) (x : Ending) (w' : World) : Prop :=
  x = .returned (.tuple #[.int .i64 n, .int .i64 e]) ∧ ∃ L', RsSt U w' L' cf s' ∧ RGrew w L L' ∧ Kp L.all w w'
theorem RNewJ.no {U : List Nat} {L : RLay} {cf : Cfg} {s : Cs} {w w' : World} (hC : RsSt U w L cf s) (k : Kp [] w w') (e : Int) : RNewJ U L cf 0 e s w (.returned (.tuple #[.int .i64 0, .int .i64 e])) w' :=
  ⟨rfl, L, hC.kp k (by simp) (fun _ h => .inl h), RGrew.refl _ _, k.mono (by simp)⟩

set_option maxHeartbeats 8000000 in
set_option maxRecDepth 100000 in
theorem add_any (U : List Nat) (w : World) (L : RLay) (cf : Cfg) (s : Cs) (j : Job) (A : Option Addr) (n c : Nat) (hC : RsSt U w L cf s) (hj : nextJ s ≤ 900000) (hn : j.text.length = n) (hr : Rd w A (iv .u8 j.text)) (hnil : A = none → c = 0) (h9 : n ≤ 1000000) :
    Calls Tryz.prog 95 #[.pointer (some ⟨L.b, 0, none⟩), .agg #[.int .i64 (j.kind : Int), .string j.key, .slice A n c]] w fun e w' => e = .returned (.int .i64 (nextJ s : Int)) ∧ ∃ L', RsSt U w' L' cf (gives s j) ∧ RGrew w L L' ∧ Kp L.all w w' := by
  have hlt := hC.lt
  obtain ⟨κ, VS, VW, VL, VA, VD, h⟩ := hC
  obtain ⟨past, vs, h1, h2, h3, h4⟩ := h.jq
  obtain ⟨AL, cL, rfl, _⟩ := own_rd h2
  obtain ⟨t, ht⟩ : ∃ t, s.ended + s.jobs.length = t := ⟨_, rfl⟩
  rw [nextJ, ht] at hj
  have hb5 : w.cell? ⟨L.b, 5, none⟩ = some (.slice AL t cL) := by have := blk_cell h.hd 5 rfl; rw [ht] at this; exact this
  have HN := As.mk hn
  have HRD := As.mk hr
  have HNIL := As.mk hnil
  have HC5 := As.mk hb5
  have HT := As.mk ht
  have HTL := As.mk h2
  have HALL := As.mk (show RsP U w L cf s κ VS VW (.slice AL (s.ended + s.jobs.length) cL) VA VD ∧ past.length = s.ended ∧ RjOk (L.all ++ U) w (past ++ s.jobs) vs ∧ (Value.slice AL (s.ended + s.jobs.length) cL).ownBlock = L.gL ∧ (∀ x ∈ L.all ++ U, x < w.heap.size) from ⟨h, h1, h3, h4, hlt⟩)
  have HON := As.mk (show Tryz.prog.underlying 24 = _ from Tryz.underlying24)
  rw [nextJ, ht]
  clear hlt h h1 h2 h3 h4 hn hr hnil ht hb5
  go_enter Tryz.func95, Tryz.ntmps95
  have HKX : As (∀ v2 w2, w2.ownsRow 0 5 1 v2 (0 + n) ([] ++ iv .u8 j.text) → Kp (Value.slice (some ⟨w.heap.size + 1, 0, none⟩) 0 0).ownBlock.toList ((w.alloc (.cells #[.int .i64 (j.kind : Int), .string j.key, .slice A n c] 168)).alloc (.cells #[] 5)) w2 → At (w.heap.size + 2) (Value.slice (some ⟨w.heap.size + 1, 0, none⟩) 0 0).ownBlock v2.ownBlock →
      ∃ A2 c2, v2 = .slice A2 n c2 ∧ w2.cell? ⟨w.heap.size, 2, none⟩ = some (.slice A n c) ∧ w2.frozen? ⟨w.heap.size, 2, none⟩ = false ∧ As (∃ w3, w2.setCell ⟨w.heap.size, 2, none⟩ (.slice A2 n c2) = w3 ∧ Kp [] w w3 ∧ BSl (L.all ++ U) w3 (.slice A2 n c2) j.text ∧ w3.heap[w.heap.size]? = some (.cells #[.int .i64 (j.kind : Int), .string j.key, .slice A2 n c2] 168 (0, 0)))) := ⟨by
    intro v2 w2 o2 k2 a2
    have o2' : w2.ownsRow 0 5 1 v2 n (iv .u8 j.text) := by simpa using o2
    obtain ⟨A2, c2, rfl, _⟩ := own_rd o2'
    have hq := heap_alloc_new w (.cells #[.int .i64 (j.kind : Int), .string j.key, .slice A n c] 168)
    have hq2 := k2.blk (blk_alloc hq (.cells #[] 5)) (by simp [Value.ownBlock])
    have kk : Kp [] w w2 := (((Kp.refl [] w).alloc _).alloc _).trans k2 (by intro x hx; simp [Value.ownBlock] at hx; right; omega)
    refine ⟨A2, c2, rfl, blk_cell hq2 2 rfl, blk_free hq2 2, ⟨_, rfl, kk.setCell (.inr (Nat.le_refl _)) _, ?_, heap_setCell_same w2 w.heap.size 2 _ _ _ hq2⟩⟩
    have hg : ∀ g, (Value.slice A2 n c2).ownBlock = some g → w.heap.size + 1 ≤ g := a2.ge (by omega) (by simp [Value.ownBlock])
    have hown : Own 5 .u8 w2 (w.heap.size + 1) (.slice A2 n c2) j.text := ⟨by rw [HN.out]; exact o2', hg⟩
    refine (BSl.own hown (S := w.heap.size :: (L.all ++ U)) (fun x hx => ?_)).kp ((Kp.refl [w.heap.size] w2).setCell (.inl (by simp)) _) (fun x hx => .inl (by simp at hx; simp [hx])) (fun x hx => .inl (List.mem_cons_of_mem _ hx))
    rcases List.mem_cons.1 hx with e | e
    · exact .inl (by omega)
    · exact .inl (by have := HALL.out.2.2.2.2 x e; omega)⟩
  go_wp2_with (at_builtin; refine clone.app8 rfl (.tmp 5) (.tmp 7) rfl (.slice (some ⟨w.heap.size + 1, 0, none⟩) 0 0) 0 [] rfl (by have h := own_new (w.alloc (.cells #[.int .i64 (j.kind : Int), .string j.key, .slice A n c] 168)) [] 5 (by simp); rw [World.size_alloc] at h; exact h) A n c (iv .u8 j.text) rfl (by rw [iv_len, HN.out]) ((((Kp.refl [] w).alloc _).alloc _).rd_new HRD.out (by simp)) HNIL.out (iv_one _ _) (by omega) ?_; intro v2 w2 o2 k2 a2; obtain ⟨A2, c2, rfl, d2, f2, HW⟩ := HKX.out v2 w2 o2 k2 (by simpa using a2); clear o2 k2 a2)
  go_upto_region 2 with fail
  obtain ⟨w3, hw3, HW⟩ := HW.out
  rw [hw3]
  have HW := As.mk HW
  have HC3 := As.mk (HW.out.1.cell HC5.out (by simp))
  have l3 := World.block_lt_of_cell? w3 _ HC3.out
  have n3 : ¬ L.b = w3.heap.size := Nat.ne_of_lt l3
  have c3 := HC3.out
  have q0 := blk_cell HW.out.2.2 0 rfl
  have q1 := blk_cell HW.out.2.2 1 rfl
  have q2 := blk_cell HW.out.2.2 2 rfl
  have lq := World.block_lt_of_cell? w3 _ q0
  have nq : ¬ w.heap.size = w3.heap.size := Nat.ne_of_lt lq
  have HFIN : As (∀ q v7 w7, w7.ownsRow 0 168 3 v7 (t + 1) (vs ++ [.int .i64 (j.kind : Int), .string j.key, .slice A2 n c2]) → Kp (Value.slice AL t cL).ownBlock.toList ((w3.drewN q).alloc (.cells #[.int .i64 (j.kind : Int), .string j.key, .slice A2 n c2] 168)) w7 → At (w3.heap.size + 1) (Value.slice AL t cL).ownBlock v7.ownBlock →
      w7.cell? ⟨L.b, 5, none⟩ = some (.slice AL t cL) ∧ w7.frozen? ⟨L.b, 5, none⟩ = false ∧ As (∃ L', RsSt U (w7.setCell ⟨L.b, 5, none⟩ v7) L' cf (gives s j) ∧ RGrew w L L' ∧ Kp L.all w (w7.setCell ⟨L.b, 5, none⟩ v7))) := ⟨by
    intro q v7 w7 o7 k7 a7
    obtain ⟨h, h1, h3, h4, hlt⟩ := HALL.out
    have ht := HT.out
    subst ht
    have kq : Kp [] w3 (w3.drewN q) := (Kp.refl [] w3).drewN q
    obtain ⟨y0, y1, κ2, y2⟩ := RsP.more h j h1 h3 (HW.out.1.trans kq (by simp)) (HW.out.2.1.kp kq (by simp) (fun x hx => .inl hx)) h4 o7 k7 (by simpa using a7)
    refine ⟨y0, y1, ⟨_, ⟨_, _, _, _, _, _, y2⟩, ⟨rfl, fun x hx => ?_⟩, ?_⟩⟩
    · rcases RLay.mem.1 hx with e | e | e | e | e
      · exact .inl (RLay.mem.2 (.inl e))
      · exact .inl (RLay.mem.2 (.inr (.inl e)))
      · have e : v7.ownBlock = some x := e
        rcases a7 with e2 | ⟨y, e2, hy⟩
        · rw [e2] at e
          exact .inl (RLay.mem.2 (.inr (.inr (.inl (by rw [← h4]; exact e)))))
        · rw [e2] at e
          cases e
          have := HW.out.1.size
          exact .inr (by omega)
      · exact .inl (RLay.mem.2 (.inr (.inr (.inr (.inl e)))))
      · exact .inl (RLay.mem.2 (.inr (.inr (.inr (.inr e)))))
    · have k1 : Kp L.all w w7 := ((HW.out.1.mono (by simp)).trans (((Kp.refl L.all w3).drewN q).alloc _) (fun x hx => .inl hx)).trans k7 (fun x hx => .inl (RLay.mem.2 (.inr (.inr (.inl (by rw [← h4]; simpa using hx))))))
      exact k1.trans ((Kp.refl [L.b] w7).setCell (.inl (by simp)) _) (fun x hx => .inl (RLay.mem.2 (.inl (by simpa using hx))))⟩
  have HOW : As (∀ q, ((w3.drewN q).alloc (.cells #[.int .i64 (j.kind : Int), .string j.key, .slice A2 n c2] 168)).ownsRow 0 168 3 (.slice AL t cL) t vs) := ⟨fun q => by
    have ht := HT.out
    subst ht
    exact (((HW.out.1.drewN q)).alloc _).own HTL.out (by simp)⟩
  clear hw3 HW HC3 HKX
  go_region_law (refine step_app rfl (.tmp 14) (.tmp 16) 133 rfl 168 (.agg #[.int .i64 0, .string ByteArray.empty, .slice none 0 0]) 3 48 Tryz.underlying133 info_rjob rfl (by decide) (.slice AL t cL) t vs rfl (HOW.out _) (some ⟨w3.heap.size, 0, none⟩) 1 1 [.int .i64 (j.kind : Int), .string j.key, .slice A2 n c2] rfl rfl (rd_new _ [.int .i64 (j.kind : Int), .string j.key, .slice A2 n c2] 168) (by simp) (by simp [Value.oneCell']) (by omega) (by omega) ?_; intro v7 w7 o7 k7 a7; obtain ⟨A7, c7, rfl, _⟩ := own_rd o7; obtain ⟨y0, y1, HZ⟩ := HFIN.out _ _ w7 o7 k7 (by simpa using a7); clear o7 k7 a7)
  all_goals
    have i9 : IntKind.i64.wrap (((t + 1 : Nat) : Int) - 1) = (t : Int) := by rw [IntKind.wrap_i64]; omega
    have i8 : IntKind.i64.wrap ((t : Int) + 1 - 1) = (t : Int) := by rw [IntKind.wrap_i64]; omega
    go_wp2_with fail
    go_ret
    exact ⟨by first | rfl | (congr 2; omega), HZ.out⟩
end Go.Proofs.YtdiljpdohmeceaaGreat.co.cr
