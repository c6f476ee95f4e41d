/- coord.New of groups. -/
import Derived.Test.YtdiljpdohmeceaaGreatCo2
import Derived.Test.YtdiljpdohmeceaaGreatBase
namespace Go.Proofs.YtdiljpdohmeceaaGreat.co
open Go.RowKit H O opk frame wir

theorem ri_nil {S : List Nat} {w : World} {b o j n cj : Nat} {Aj : Option Addr} {l : List (List Int)} (h : Ri S w (some ⟨b, o, none⟩) l) (hj : j < l.length) (hc : w.cell? ⟨b, o + j, none⟩ = some (.slice Aj n cj)) : Aj = none → cj = 0 := by
  obtain ⟨a, A2, c2, ha, _, h1, _, h2, _⟩ := h j hj
  cases ha
  rw [Go.WideShapes.add_plain, hc] at h1
  cases h1
  exact h2
def newCs (n : Nat) : Cs := ⟨List.replicate n 0, [], 0, 0, [], []⟩
/-- inside New's loop -/
structure NewI (w : World) (id pat tr : Nat) (n b k : Nat) (l : List (List Int)) (wr : World) (VS : Value) : Prop where
  blk : wr.heap[b]? = some (.cells #[.int .i64 (id : Int), .int .i64 (pat : Int), .int .i64 (tr : Int), VS, .slice (some ⟨w.heap.size, 0, none⟩) n n, .slice none 0 0, .int .i64 0, .int .i64 0, .slice none 0 0] 95 (0, 0))
  sh : OwnL [b, w.heap.size] wr w.heap.size VS (l.take k)
  gv : ∀ g, VS.ownBlock = some g → g ≠ b ∧ g ≠ w.heap.size
  wh : wr.ownsRow 0 3 1 (.slice (some ⟨w.heap.size, 0, none⟩) n n) n (iv .i64 (List.replicate n 0))
  kp : Kp [] w wr
  lo : w.heap.size < b
theorem NewI.fin {w wr : World} {id pat tr n b : Nat} {l : List (List Int)} {VS : Value} (h : NewI w id pat tr n b n l wr VS) (hn : l.length = n) (U : List Nat) (hU : ∀ x ∈ U, x < w.heap.size) :
    CoSt U wr ⟨b, w.heap.size, none, none, none, none, [], []⟩ ⟨id, pat, tr, l⟩ (newCs n) := by
  have hbl := lt_of_block h.blk
  have hgl := own_lt h.wh w.heap.size rfl
  have e : l.take n = l := List.take_of_length_le (by omega)
  have hsh := h.sh
  rw [e] at hsh
  obtain ⟨A, c, rfl, h1, h2, h3, h4⟩ := hsh.form
  have hmem : ∀ x ∈ (⟨b, w.heap.size, none, none, none, none, [], []⟩ : Lay).all ++ U, x = b ∨ x = w.heap.size ∨ x < w.heap.size := by
    intro x hx
    rcases List.mem_append.1 hx with e | e
    · simp [Lay.all] at e
      rcases e with e | e
      · exact .inl e
      · exact .inr (.inl e)
    · exact .inr (.inr (hU x e))
  refine ⟨fun x => if x = b then 1 else if x = w.heap.size then 2 else 0, .slice A l.length c, .slice (some ⟨w.heap.size, 0, none⟩) n n, .slice none 0 0, .slice none 0 0, .slice none 0 0, .slice none 0 0, [],
    ⟨⟨by simp, hbl⟩, ⟨by have := h.lo; show (if w.heap.size = b then 1 else if w.heap.size = w.heap.size then 2 else 0) = 2; rw [if_neg (by omega), if_pos rfl], hgl⟩, fun x e => (by cases e), fun x e => (by cases e), fun x e => (by cases e), fun x e => (by cases e), fun x e => (by cases e), fun x e => (by cases e), List.nodup_nil, List.nodup_nil, fun x hx => ?_⟩,
    h.blk, ⟨A, c, rfl, hsh.ri (fun x hx => ?_), h1, h2, h3⟩, ⟨?_, rfl⟩, .inl ⟨rfl, rfl, rfl⟩, ⟨[], World.ownsRow_nil _ 0 _ 6, rfl, rfl⟩, rfl, fun i j p e => (by simp [newCs] at e), rfl, fun i a p e => (by simp [newCs] at e), ⟨World.ownsRow_nil _ 0 _ 1, rfl⟩, ⟨World.ownsRow_nil _ 0 _ 2, rfl, by simp [newCs]⟩, fun _ => ⟨rfl, rfl⟩⟩
  · have := hU x hx
    have := h.lo
    show (if x = b then 1 else if x = w.heap.size then 2 else 0) = 0 ∧ x < wr.heap.size
    rw [if_neg (by omega), if_neg (by omega)]
    exact ⟨rfl, by omega⟩
  · rcases hmem x hx with e | e | e
    · refine .inl ⟨by simp [e], fun e2 => ?_⟩
      exact (h.gv x (by rw [ownBlock_slice]; exact e2)).1 e
    · refine .inl ⟨by simp [e], fun e2 => ?_⟩
      exact (h.gv x (by rw [ownBlock_slice]; exact e2)).2 e
    · exact .inr (.inl e)
  · have := h.wh
    simpa [newCs, iv] using this

set_option maxHeartbeats 8000000 in
set_option maxRecDepth 100000 in
theorem new_good (id pat tr : Nat) (A : Option Addr) (n c : Nat) (l : List (List Int)) (w : World) (hn : l.length = n) (hr : Ri [] w A l) (hg : ∀ x ∈ l, Grp x) (h1 : 7 ≤ id ∧ id ≤ 255) (h2 : 1 ≤ pat ∧ pat ≤ 1000) (h3 : 1 ≤ tr ∧ tr ≤ 1000) (h4 : 1 ≤ n ∧ n ≤ 8) :
    Calls Tryz.prog 24 #[.int .i64 (id : Int), .int .i64 (pat : Int), .int .i64 (tr : Int), .slice A n c] w fun e w' => ∃ L, e = .returned (.tuple #[.pointer (some ⟨L.b, 0, none⟩), .int .i64 0]) ∧
      As (∀ U, (∀ x ∈ U, x < w.heap.size) → CoSt U w' L ⟨id, pat, tr, l⟩ (newCs n)) ∧ (∀ x ∈ L.all, w.heap.size ≤ x) ∧ Kp [] w w' := by
  have m0 : ¬ (n : Int) < 1 := by omega
  have m1 : ¬ (n : Int) > 8 := by omega
  have m2 : (0 : Int) ≤ (n : Int) := by omega
  have f1 : ¬ (id : Int) < 7 := by omega
  have f2 : ¬ (255 : Int) < (id : Int) := by omega
  have f3 : ¬ (pat : Int) < 1 := by omega
  have f4 : ¬ (1000 : Int) < (pat : Int) := by omega
  have f5 : ¬ (tr : Int) < 1 := by omega
  have f6 : ¬ (1000 : Int) < (tr : Int) := by omega
  obtain ⟨ti, hti, hti2⟩ := Option.map_eq_some_iff.1 info_int
  obtain ⟨q1, q2, q3⟩ : ti.zero = some (.int .i64 0) ∧ ti.size = 1 ∧ ti.bytes = 8 := by simpa using hti2
  obtain ⟨w1, hmk, ho1, hg1⟩ := run_makeSlice_full (P := Tryz.prog) (w := w) 0 53 3 ti (.int .i64 0) 1 Tryz.underlying53 hti q1 q2 .i64 .i64 n (by omega) (by rw [q3]; omega) (by simp [maxLen]; omega) (Nat.zero_le _)
  have k1 : Kp [] w w1 := (Kp.refl [] w).grown hg1 (by simp)
  have HO1 := As.mk ho1
  have HK1 := As.mk k1
  have HN := As.mk hn
  have HR := As.mk hr
  have HG := As.mk hg
  clear hn ho1 hg1 hti hti2 q1 q2 q3 k1 hr hg
  go_enter Tryz.func24, Tryz.ntmps24
  go_wp2_with fail
  have HI0 : As (NewI w id pat tr n w1.heap.size 0 l (w1.alloc (.cells #[.int .i64 (id : Int), .int .i64 (pat : Int), .int .i64 (tr : Int), .slice none 0 0, .slice (some ⟨w.heap.size, 0, none⟩) n n, .slice none 0 0, .int .i64 0, .int .i64 0, .slice none 0 0] 95)) (.slice none 0 0)) := ⟨by
    have hl := own_lt HO1.out w.heap.size rfl
    refine ⟨heap_alloc_new w1 _, OwnL.nil _ _ _, by simp [Value.ownBlock], ?_, HK1.out.alloc _, hl⟩
    have h := HO1.out.alloc (.cells #[.int .i64 (id : Int), .int .i64 (pat : Int), .int .i64 (tr : Int), .slice none 0 0, .slice (some ⟨w.heap.size, 0, none⟩) n n, .slice none 0 0, .int .i64 0, .int .i64 0, .slice none 0 0] 95)
    have e : (madeCells (Value.int .i64 0).cells (n * 1)).toList = iv .i64 (List.replicate n 0) := by
      rw [show (Value.int .i64 0).cells = #[.int .i64 0] from rfl, toList_madeCells_one, Nat.mul_one, iv, List.map_replicate]
    rw [e] at h
    exact h⟩
  go_loopw [55] (fun i wr => ∃ (k : Nat) (VS : Value), i = .int .i64 (k : Int) ∧ k ≤ n ∧ As (NewI w id pat tr n w1.heap.size k l wr VS)) (fun i _ => n - (intOf i).toNat)
  case atStart => exact ⟨0, _, rfl, by omega, HI0⟩
  case round =>
    obtain ⟨k, VS, rfl, hk, HI⟩ := hrel
    by_cases hlt : k < n
    · have hlt' : k < l.length := by rw [HN.out]; exact hlt
      obtain ⟨b0, o0, Aj, cj, rfl, _, d0, hcj, hrj⟩ := ri_at HR.out k hlt'
      have hjnil := ri_nil HR.out hlt' d0
      have d1 := HI.out.kp.cell d0 (by simp)
      obtain ⟨x, hx⟩ : ∃ x, x = l[k] := ⟨_, rfl⟩
      rw [← hx] at d1 hrj hcj
      obtain ⟨m, hm⟩ : ∃ m, x.length = m := ⟨_, rfl⟩
      rw [hm] at d1 hcj
      have hgx : Grp x := by rw [hx]; exact HG.out _ (List.getElem_mem _)
      have HGR := As.mk (group_good Aj m cj x wr hm (HI.out.kp.rd_new hrj.rd (by simp)) hgx)
      have i0 : (0 : Int) ≤ (k : Int) := by omega
      have i1 : (k : Int) < (n : Int) := by omega
      obtain ⟨us, ho, hlo, hvs⟩ := HI.out.sh
      have hlk : (l.take k).length = k := by rw [List.length_take]; omega
      rw [hlk] at ho
      obtain ⟨AV, cV, rfl, _⟩ := own_rd ho
      have c3 : wr.cell? ⟨w1.heap.size, 3, none⟩ = some (.slice AV k cV) := blk_cell HI.out.blk 3 rfl
      have f3' := blk_free HI.out.blk 3
      have hm7 := hgx.1
      have HCX : As (∀ wX, Kp [] wr wX → Calls Tryz.prog 72 #[.slice Aj m cj] wX fun e w2 => ∃ A2 c2, e = .returned (.slice A2 m c2) ∧ Kp [] wr w2 ∧ As (Own 3 .i64 w2 wr.heap.size (.slice A2 m c2) x)) := ⟨fun wX kX => by
        refine (clone.ints_any Aj m cj x wX hm ((HI.out.kp.trans kX (by simp)).rd_new hrj.rd (by simp)) hjnil (by omega)).mono ?_
        rintro e w2 ⟨v, rfl, o2, k2⟩
        obtain ⟨A2, c2, rfl, _⟩ := own_rd o2.1
        rw [hm] at o2 ⊢
        exact ⟨A2, c2, rfl, kX.trans k2 (by simp), ⟨o2.lower kX.size⟩⟩⟩
      have HOWs : ∀ wX, Kp [] wr wX → wX.ownsRow 0 53 1 (.slice AV k cV) k us := fun wX kX => kX.own ho (by simp)
      have HFIN : As (∀ w2 A2 c2 v3 w3, Kp [] wr w2 → Own 3 .i64 w2 wr.heap.size (.slice A2 m c2) x → w3.ownsRow 0 53 1 v3 (k + 1) (us ++ [.slice A2 m c2]) → Kp (Value.slice AV k cV).ownBlock.toList (w2.alloc (.cells #[.slice A2 m c2] 53)) w3 → At (w2.heap.size + 1) (Value.slice AV k cV).ownBlock v3.ownBlock →
          w3.cell? ⟨w1.heap.size, 3, none⟩ = some (.slice AV k cV) ∧ w3.frozen? ⟨w1.heap.size, 3, none⟩ = false ∧ As (NewI w id pat tr n w1.heap.size (k + 1) l (w3.setCell ⟨w1.heap.size, 3, none⟩ v3) v3)) := ⟨by
        intro w2 A2 c2 v3 w3 k2 o2 o3 k3 a3
        have hov := HI.out.gv
        have hsz := HI.out.kp.size
        have hs2 := k2.size
        have hbl := lt_of_block HI.out.blk
        have hgl : w.heap.size < wr.heap.size := own_lt HI.out.wh w.heap.size rfl
        have hvb : w1.heap.size ∉ (Value.slice AV k cV).ownBlock.toList := by
          intro e
          exact (hov _ (by simpa using e)).1 rfl
        have hb3 := k3.blk (blk_alloc (k2.blk HI.out.blk (by simp)) _) hvb
        have hu2 : Own 3 .i64 w2 w.heap.size (.slice A2 m c2) x := o2.lower hsz
        have hsnoc : OwnL [w1.heap.size, w.heap.size] w3 w.heap.size v3 (l.take k ++ [x]) := by
          have kA : Kp [] wr (w2.alloc (.cells #[.slice A2 m c2] 53)) := k2.alloc _
          have hL : OwnL [w1.heap.size, w.heap.size] (w2.alloc (.cells #[.slice A2 m c2] 53)) w.heap.size (.slice AV k cV) (l.take k) := HI.out.sh.kp kA (by simp) (by simp) (fun x hx => .inl hx)
          have kB : Kp [] w2 (w2.alloc (.cells #[.slice A2 m c2] 53)) := (Kp.refl [] w2).alloc _
          refine OwnL.snoc hlk hL (HOWs _ kA) (hu2.kp kB (by simp)) (fun y hy => ⟨fun hm => ?_, fun e => ?_⟩) o3 k3 (by simpa using a3) (by simp; omega)
          · have h8 := o2.2 y hy
            simp only [List.mem_cons, List.not_mem_nil, or_false] at hm
            rcases hm with e | e <;> omega
          · have h8 := o2.2 y hy
            have h9 := own_lt (HOWs wr (Kp.refl _ _)) y e
            omega
        have htk : l.take (k + 1) = l.take k ++ [x] := by rw [hx]; exact List.take_succ_eq_append_getElem hlt'
        have kS : Kp [w1.heap.size] w3 (w3.setCell ⟨w1.heap.size, 3, none⟩ v3) := (Kp.refl _ w3).setCell (.inl (by simp)) _
        have hgv3 : ∀ g, v3.ownBlock = some g → g ≠ w1.heap.size ∧ g ≠ w.heap.size := by
          intro g e
          rcases a3 with e2 | ⟨y, e2, hy⟩
          · rw [e2] at e; exact hov g e
          · rw [e2] at e
            cases e
            have := HI.out.lo
            omega
        have kAll : Kp [] w w3 := (HI.out.kp.trans (k2.alloc _) (by simp)).trans k3 (fun y hy => .inr (by
          have h8 : (Value.slice AV k cV).ownBlock = some y := by simpa using hy
          exact hlo y h8))
        have hlo2 := HI.out.lo
        refine ⟨blk_cell hb3 3 rfl, blk_free hb3 3, ⟨⟨heap_setCell_same w3 w1.heap.size 3 _ _ v3 hb3, ?_, hgv3, ?_, kAll.trans kS (by intro y hy; simp at hy; omega), hlo2⟩⟩⟩
        · rw [htk]
          refine hsnoc.kp kS (fun y hy => .inl (by simp at hy; simp [hy])) (fun g e hm => ?_) (fun x hx => .inl hx)
          simp at hm
          exact (hgv3 g e).1 hm
        · refine kS.own (k3.own ((k2.alloc _).own HI.out.wh (by simp)) (fun g e hm => ?_)) (fun g e hm => ?_)
          · have e : g = w.heap.size := by simpa [Value.ownBlock] using e.symm
            exact (hov g (by simpa using hm)).2 e
          · have e : g = w.heap.size := by simpa [Value.ownBlock] using e.symm
            simp at hm
            omega⟩
      have HOX : As (∀ wX, Kp [] wr wX → wX.ownsRow 0 53 1 (.slice AV k cV) k us) := ⟨fun wX kX => kX.own ho (by simp)⟩
      clear hjnil hx hrj hcj hm hgx ho hlo hvs hlk hlt' d0 hm7 HOWs
      go_upto_region 9 with (go_at_call 71; refine HGR.out.mono ?_; rintro e wg ⟨rfl, kg⟩; have HKG := As.mk kg; have c3g := kg.cell c3 (by simp); clear kg)
      go_region_law (first
        | (go_simp; go_at_call 72; refine (HCX.out _ (by first | exact HKG.out | exact HKG.out.drew | exact HKG.out.drewN _)).mono ?_; rintro e w2 ⟨A2, c2, rfl, k2, HO2⟩; have HK2 := As.mk k2; have c32 := k2.cell c3 (by simp); have n2 : w1.heap.size < w2.heap.size := World.block_lt_of_cell? w2 _ c32; have n3 : ¬ w1.heap.size = w2.heap.size := Nat.ne_of_lt n2; clear k2)
        | (refine step_app rfl (.tmp 66) (.tmp 69) 79 rfl 53 (.slice none 0 0) 1 24 Tryz.underlying79 info_row rfl (by decide) (.slice AV k cV) k us rfl (HOX.out _ (by first | exact (HK2.out.alloc _).drew | exact (HK2.out.drew.alloc _) | exact (HK2.out.alloc _))) (some ⟨w2.heap.size, 0, none⟩) 1 1 [.slice A2 m c2] rfl rfl (by first | exact ((Kp.refl [] _).drew).rd_new (rd_new w2 [.slice A2 m c2] 53) (by simp) | exact rd_new w2 [.slice A2 m c2] 53) (by simp) (by simp [Value.oneCell']) (by omega) (by omega) ?_; intro v7 w7 o7 k7 a7; obtain ⟨A7, c7, rfl, _⟩ := own_rd o7; obtain ⟨y0, y1, HZ⟩ := HFIN.out w2 A2 c2 _ w7 HK2.out HO2.out o7 (by first | exact k7 | exact (Kp.refl _ _).drew.trans k7 (fun x hx => .inl hx)) (by simpa using a7); clear o7 k7 a7))
      all_goals
        go_wp2_with fail
        go_roundw
        case rel => exact ⟨k + 1, _, by go_num, by omega, HZ⟩
        case measure => simp [intOf]; omega
    · obtain rfl : k = n := by omega
      go_wp2_with fail
      go_ret2
      have hb := HI.out.lo
      refine ⟨⟨w1.heap.size, w.heap.size, none, none, none, none, [], []⟩, rfl, ⟨HI.out.fin HN.out⟩, fun x hx => ?_, HI.out.kp⟩
      simp [Lay.all] at hx
      omega
end Go.Proofs.YtdiljpdohmeceaaGreat.co
