/- Package manifest: own, Map. -/
import Derived.Test.YtiabdeciadfiiaaManF
import Derived.Deep.RegionLaw
namespace Go.Proofs.Ytiabdeciadfiiaa.man
open Go.RowKit H O opk

/-- the rows' values -/
theorem Ri.vals {w : World} {A : Option Addr} {l : List (List Int)} (h : Ri [] w A l) : ∃ vs : List Value, vs.length = l.length ∧ Rd w A vs ∧ (∀ u ∈ vs, u.oneCell' = true) ∧
    ∀ j (_ : j < l.length), ∃ Aj cj, vs[j]? = some (.slice Aj l[j].length cj) ∧ (Aj = none → cj = 0) ∧ Rd w Aj (iv .i64 l[j]) := by
  have hone : ∀ j (hj : j < l.length), ∃ u Aj cj, u = Value.slice Aj l[j].length cj ∧ (∃ a, A = some a ∧ w.cell? (a.add j) = some u) ∧ (Aj = none → cj = 0) ∧ Rd w Aj (iv .i64 l[j]) := by
    intro j hj
    obtain ⟨a, Aj, cj, ha, _, hc, _, hn, hr⟩ := h j hj
    exact ⟨_, Aj, cj, rfl, ⟨a, ha, hc⟩, hn, hr.rd⟩
  have key : ∀ k, k ≤ l.length → ∃ vs : List Value, vs.length = k ∧ Rd w A vs ∧ (∀ u ∈ vs, u.oneCell' = true) ∧ ∀ j (_ : j < l.length), j < k → ∃ Aj cj, vs[j]? = some (.slice Aj l[j].length cj) ∧ (Aj = none → cj = 0) ∧ Rd w Aj (iv .i64 l[j]) := by
    intro k
    induction k with
    | zero => exact fun _ => ⟨[], rfl, Rd.nil _ _, by simp, fun j _ hj => by omega⟩
    | succ k ih =>
      intro hk
      obtain ⟨vs, h1, h2, h3, h4⟩ := ih (by omega)
      obtain ⟨u, Aj, cj, hu, ⟨a, ha, hc⟩, hn, hr⟩ := hone k (by omega)
      refine ⟨vs ++ [u], by simp [h1], ?_, ?_, ?_⟩
      · intro j v hv
        by_cases hj : j < k
        · exact h2 j v (by rw [List.getElem?_append_left (by omega)] at hv; exact hv)
        · rw [List.getElem?_append_right (by omega)] at hv
          have hj0 : j = k := by
            have := (List.getElem?_eq_some_iff.1 hv).1
            simp at this
            omega
          subst hj0
          simp [h1] at hv
          subst hv
          exact ⟨a, ha, hc⟩
      · intro x hx
        rcases List.mem_append.1 hx with hx | hx
        · exact h3 x hx
        · simp at hx; rw [hx, hu]; rfl
      · intro j hj hjk
        by_cases e : j = k
        · subst e
          exact ⟨Aj, cj, by rw [List.getElem?_append_right (by omega)]; simp [h1, hu], hn, hr⟩
        · obtain ⟨Bj, dj, g1, g2, g3⟩ := h4 j hj (by omega)
          exact ⟨Bj, dj, by rw [List.getElem?_append_left (by omega)]; exact g1, g2, g3⟩
  obtain ⟨vs, h1, h2, h3, h4⟩ := key l.length (Nat.le_refl _)
  exact ⟨vs, h1, h2, h3, fun j hj => h4 j hj hj⟩

/-- Where own stands: the rows below k are its own. -/
structure OG (w : World) (ver : Int) (v : Value) (n k : Nat) (l : List (List Int)) (vs : List Value) (wr : World) : Prop where
  kp : Kp [] w wr
  map : MapAt wr w.heap.size ver v
  res : MapAt wr (w.heap.size + 1) 0 (.slice none 0 0)
  lo : ∀ y, v.ownBlock = some y → w.heap.size + 1 < y
  own : ∃ us, wr.ownsRow 0 22 1 v n us ∧ (∀ j (_ : j < l.length), j < k → ∃ u, us[j]? = some u ∧ Own 3 .i64 wr (w.heap.size + 2) u l[j] ∧ ∀ y, u.ownBlock = some y → v.ownBlock ≠ some y) ∧ ∀ j, k ≤ j → us[j]? = vs[j]?
theorem OG.step {w wr w2 : World} {ver : Int} {g n c k : Nat} {l : List (List Int)} {vs : List Value} {u : Value} (h : OG w ver (.slice (some ⟨g, 0, none⟩) n c) n k l vs wr) (hl : l.length = n) (hk : k < n) (k2 : Kp [] wr w2) (hu : ∃ x : List Int, l[k]? = some x ∧ Own 3 .i64 w2 wr.heap.size u x) :
    (∃ x, w2.cell? ⟨g, k, none⟩ = some x) ∧ w2.frozen? ⟨g, k, none⟩ = false ∧ OG w ver (.slice (some ⟨g, 0, none⟩) n c) n (k + 1) l vs (w2.setCell ⟨g, k, none⟩ u) := by
  subst hl
  obtain ⟨x, hx, hu⟩ := hu
  obtain rfl : x = l[k] := by rw [List.getElem?_eq_getElem hk] at hx; simpa using hx.symm
  obtain ⟨us, o, h1, h2⟩ := h.own
  have hg := h.lo g rfl
  have o2 := k2.own o (by simp)
  have hgl : g < wr.heap.size := own_lt o g rfl
  have hwr := lt_of_block h.res
  obtain ⟨a1, a2, a3⟩ := own_store o2 k hk u
  have lu : us.length = l.length := by simpa using o.1
  have kg : Kp [g] w2 (w2.setCell ⟨g, k, none⟩ u) := (Kp.refl _ w2).setCell (.inl (by simp)) u
  refine ⟨a1, a2, (h.kp.trans k2 (by simp)).trans kg (by intro y hy; simp at hy; right; omega), (h.map.kp k2 (by simp)).kp kg (by simp; omega), (h.res.kp k2 (by simp)).kp kg (by simp; omega), h.lo, us.set k u, a3, ?_, ?_⟩
  · intro j hj hjk
    by_cases e : j = k
    · subst e
      refine ⟨u, by rw [List.getElem?_set_self (by omega)], (hu.lower (by omega)).kp kg (fun y hy hm => ?_), fun y hy he => ?_⟩
      · have := (hu.lt hy).1
        simp at hm
        omega
      · have := (hu.lt hy).1
        have : g = y := Option.some.inj he
        omega
    · obtain ⟨z, hz, ho, hzk⟩ := h1 j hj (by omega)
      refine ⟨z, by rw [List.getElem?_set_ne (Ne.symm e)]; exact hz, (ho.kp k2 (by simp)).kp kg (fun y hy hm => hzk y hy (by simp at hm; rw [hm]; rfl)), hzk⟩
  · intro j hj
    rw [List.getElem?_set_ne (by omega)]
    exact h2 j (by omega)
theorem OG.ownL {w wr : World} {ver : Int} {v : Value} {n : Nat} {l : List (List Int)} {vs : List Value} (h : OG w ver v n n l vs wr) (hl : l.length = n) : OwnL [] wr (w.heap.size + 2) v l := by
  subst hl
  obtain ⟨us, o, h1, _⟩ := h.own
  refine ⟨us, o, fun y hy => h.lo y hy, fun j hj => ?_⟩
  obtain ⟨u, hu, ho, hk⟩ := h1 j hj hj
  exact ⟨u, hu, ho, fun y hy => ⟨by simp, hk y hy⟩⟩

def MapPost (ver : Int) (l : List (List Int)) (w : World) (e : Ending) (w' : World) : Prop :=
  ∃ A c, e = .returned (.agg #[.int .i64 ver, .slice A l.length c]) ∧ OwnL [] w' w.heap.size (.slice A l.length c) l ∧ Kp [] w w'

set_option maxHeartbeats 8000000 in
set_option maxRecDepth 100000 in
theorem own_any (ver : Int) (A : Option Addr) (n c : Nat) (l : List (List Int)) (w : World) (hn : l.length = n) (hr : Ri [] w A l) (hnil : A = none → c = 0) (hb : n ≤ 10000) (hm : ∀ x ∈ l, x.length ≤ 10000) :
    Calls Try.prog 45 #[.agg #[.int .i64 ver, .slice A n c]] w (MapPost ver l w) := by
  obtain ⟨vs, hvl, hvr, hv1, hvj⟩ := Ri.vals hr
  have HVJ := As.mk hvj
  have HN := As.mk hn
  have HM := As.mk hm
  have HCL : As (Calls Try.prog 71 #[.slice A n c] ((w.alloc (.cells #[.int .i64 ver, .slice A n c] 36)).alloc (.cells #[.int .i64 0, .slice none 0 0] 36)) fun e w1 => ∃ A1 c1, e = .returned (.slice A1 n c1) ∧ (n = 0 ∨ ∃ g, A1 = some ⟨g, 0, none⟩) ∧ MapAt w1 w.heap.size ver (.slice A n c) ∧ OG w ver (.slice A1 n c1) n 0 l vs (w1.setCell ⟨w.heap.size, 1, none⟩ (.slice A1 n c1))) := ⟨by
    have kA : Kp [] w (w.alloc (.cells #[.int .i64 ver, .slice A n c] 36)) := (Kp.refl [] w).alloc _
    have kB : Kp [] (w.alloc (.cells #[.int .i64 ver, .slice A n c] 36)) ((w.alloc (.cells #[.int .i64 ver, .slice A n c] 36)).alloc (.cells #[.int .i64 0, .slice none 0 0] 36)) := (Kp.refl [] _).alloc _
    have mA : MapAt ((w.alloc (.cells #[.int .i64 ver, .slice A n c] 36)).alloc (.cells #[.int .i64 0, .slice none 0 0] 36)) w.heap.size ver (.slice A n c) := (MapAt.new w _ _).kp kB (by simp)
    have mB : MapAt ((w.alloc (.cells #[.int .i64 ver, .slice A n c] 36)).alloc (.cells #[.int .i64 0, .slice none 0 0] 36)) (w.heap.size + 1) 0 (.slice none 0 0) := by
      have := MapAt.new (w.alloc (.cells #[.int .i64 ver, .slice A n c] 36)) 0 (.slice none 0 0)
      rwa [World.size_alloc] at this
    have kAB := kA.trans kB (by simp)
    refine (clone.rows_any A n c vs _ (by rw [hvl, hn]) (kAB.rd_new hvr (by simp)) hv1 hnil (by omega)).mono ?_
    rintro e w1 ⟨v, rfl, o, hlo, k1⟩
    rw [World.size_alloc, World.size_alloc] at hlo
    obtain ⟨A1, c1, rfl, _, _, _, _⟩ := own_rd o
    have m1 := mA.kp k1 (by simp)
    have hS := map_set1 (w := w) (Nat.le_refl _) (kAB.trans k1 (by simp)) m1 (.slice A1 n c1)
    refine ⟨A1, c1, rfl, ?_, m1, hS.2.1, hS.1, (mB.kp k1 (by simp)).kp hS.2.2 (by simp), fun y hy => by have := hlo y hy; omega, vs, hS.2.2.own o (fun y hy hm => by have := hlo y hy; simp at hm; omega), fun j _ hj => by omega, fun j _ => rfl⟩
    rcases o.2 with ⟨h, _⟩ | ⟨g, cap, cur, h, _⟩
    · cases h; exact .inl rfl
    · cases h; exact .inr ⟨g, rfl⟩⟩
  clear hn hr hnil hm hvl hvr hv1 hvj
  go_enter Try.func45, Try.ntmps45
  go_wp2_with (go_at_call 71; refine HCL.out.mono ?_; rintro e w1 ⟨A1, c1, rfl, hsh, M1, H1⟩; obtain ⟨q0, q1⟩ := M1.cells; have f1 := M1.free 1; obtain ⟨z0, z1⟩ := H1.map.cells; have HH1 := As.mk H1; have HSH := As.mk hsh; clear M1 H1 hsh HCL)
  go_loopw [11] (fun i wr => ∃ k : Nat, i = .int .i64 (k : Int) ∧ k ≤ n ∧ As (OG w ver (.slice A1 n c1) n k l vs wr)) (fun i _ => n - (intOf i).toNat)
  case atStart => exact ⟨0, rfl, by omega, HH1⟩
  case round =>
    obtain ⟨k, rfl, hk, HD⟩ := hrel
    obtain ⟨q0', q1'⟩ := HD.out.map.cells
    by_cases hlt : k < n
    · obtain ⟨g, rfl⟩ : ∃ g, A1 = some ⟨g, 0, none⟩ := by
        rcases HSH.out with h | h
        · omega
        · exact h
      have hlt' : k < l.length := by rw [HN.out]; exact hlt
      obtain ⟨Aj, cj, hvk, hnj, hrj⟩ := HVJ.out k hlt'
      obtain ⟨us, o, _, h2⟩ := HD.out.own
      have d1 : wr.cell? ⟨g, k, none⟩ = some (.slice Aj l[k].length cj) := by
        rw [o.cellAt k (by have := o.1; simp at this; omega)]
        have h9 := h2 k (Nat.le_refl _)
        rw [hvk] at h9
        rw [← h9]
      have hg1 := HD.out.lo g rfl
      have hg2 := own_lt o g rfl
      obtain ⟨x, hx⟩ : ∃ x, x = l[k] := ⟨_, rfl⟩
      rw [← hx] at d1 hrj
      obtain ⟨m, hm⟩ : ∃ m, x.length = m := ⟨_, rfl⟩
      rw [hm] at d1
      have hxl : x.length ≤ 10000 := by rw [hx]; exact HM.out _ (List.getElem_mem _)
      have HCX : As (∀ wX, Kp [] wr wX → Calls Try.prog 72 #[.slice Aj m cj] wX fun e w2 => ∃ A2 c2, e = .returned (.slice A2 m c2) ∧ Kp [] wr w2 ∧ (∃ y, w2.cell? ⟨g, k, none⟩ = some y) ∧ w2.frozen? ⟨g, k, none⟩ = false ∧ ∀ wY, Kp [] w2 wY → OG w ver (.slice (some ⟨g, 0, none⟩) n c1) n (k + 1) l vs (wY.setCell ⟨g, k, none⟩ (.slice A2 m c2))) := ⟨fun wX kX => by
        refine (clone.ints_any Aj m cj x wX hm ((HD.out.kp.trans kX (by simp)).rd_new hrj (by simp)) hnj (by omega)).mono ?_
        rintro e w2 ⟨v, rfl, o2, k2⟩
        obtain ⟨A2, c2, rfl, _, _, _, _⟩ := own_rd o2.1
        rw [hm] at o2 ⊢
        have k3 : Kp [] wr w2 := kX.trans k2 (by simp)
        have hlk : l[k]? = some x := by rw [List.getElem?_eq_getElem hlt', hx]
        have hst := HD.out.step HN.out hlt k3 ⟨x, hlk, o2.lower kX.size⟩
        exact ⟨A2, c2, rfl, k3, hst.1, hst.2.1, fun wY kY => (HD.out.step HN.out hlt (k3.trans kY (by simp)) ⟨x, hlk, (o2.lower kX.size).kp kY (by simp)⟩).2.2⟩⟩
      have n1 : ¬ g = w.heap.size := by omega
      have n2 : ¬ w.heap.size = g := by omega
      have f9 := o.frozenAt k
      have b0 : (0 : Int) ≤ (k : Int) := by omega
      have b1 : (k : Int) < (n : Int) := by omega
      clear hvk hnj hrj o h2 hg1 hx hm hxl hlt'
      go_wp2
      go_region_law (first | (go_simp; go_at_call 72; refine (HCX.out _ (by first | exact Kp.refl [] _ | exact (Kp.refl [] _).drew | exact (Kp.refl [] _).drewN _)).mono ?_; rintro e w2 ⟨A2, c2, rfl, k2, ⟨y, hy⟩, hfy, hog⟩; have hB := k2.cell q1' (by simp); have HOG := As.mk hog; clear k2 hog))
      all_goals go_wp2
      all_goals
        go_roundw
        case rel => exact ⟨k + 1, by go_num, by omega, ⟨by first | exact HOG.out _ (Kp.refl [] _) | exact HOG.out _ (Kp.refl [] _).drew | exact HOG.out _ ((Kp.refl [] _).drewN _)⟩⟩
        case measure => simp [intOf]; omega
    · obtain rfl : k = n := by omega
      obtain ⟨r0, r1⟩ := HD.out.res.cells
      have g0 := HD.out.res.free 0
      have g1 := HD.out.res.free 1
      have HO := As.mk (HD.out.ownL HN.out)
      go_wp2
      have hz := map_set (w := w) (by omega : w.heap.size ≤ w.heap.size + 1) HD.out.kp HD.out.res ver (.slice A1 k c1)
      (try simp only [Exit.inBlock, Exit.then])
      refine bodyPost_ret (res_map1 rfl rfl hz.1) rfl ?_
      have h9 : OwnL [w.heap.size + 1] wr (w.heap.size + 2) (.slice A1 k c1) l := HO.out.kp (Kp.refl [] wr) (by simp) (by simp) (by intro x hx; simp at hx; right; left; omega)
      have hlt2 : ∀ a, A1 = some a → (w.heap.size + 2 ≤ a.block ∧ a.block < wr.heap.size) := (by obtain ⟨_, _, hv, _, _, _, h⟩ := HO.out.form; cases hv; exact h)
      have hk := HN.out
      refine ⟨A1, c1, by rw [hk], ?_, hz.2.1⟩
      rw [hk]
      refine (h9.kp hz.2.2 (fun x hx => .inl hx) (fun y hy hm => ?_) (by simp)).lower (by omega)
      rw [ownBlock_slice] at hy
      cases A1 with
      | none => cases hy
      | some a1 =>
        have h8 := (hlt2 a1 rfl).1
        simp at hy hm
        omega

set_option maxHeartbeats 2000000 in
/-- the map by now -/
theorem map_any (T : List Nat) (lo b : Nat) (g : Option Nat) (ver : Nat) (sh : List (List Int)) (done : Int) (w : World) (hM : MSt T lo b g ver sh done w) (hok : MapOk ver sh) :
    Calls Try.prog 14 #[.pointer (some ⟨b, 0, none⟩)] w (MapPost ver sh w) := by
  obtain ⟨A, c, hb, hri, hc, hc9, hnil⟩ := hM.ri (S := []) (by simp)
  have q0 := blk_cell hb 0 rfl
  have q1 := blk_cell hb 1 rfl
  obtain ⟨n, hn⟩ : ∃ n, sh.length = n := ⟨_, rfl⟩
  rw [hn] at q1
  have hlb := lt_of_block hb
  have kA : Kp [] w (w.alloc (.cells #[.int .i64 0, .slice none 0 0] 36)) := (Kp.refl [] w).alloc _
  have HOWN : As (Calls Try.prog 45 #[.agg #[.int .i64 (ver : Int), .slice A n c]] (w.alloc (.cells #[.int .i64 0, .slice none 0 0] 36)) fun e w1 => ∃ A1 c1, e = .returned (.agg #[.int .i64 (ver : Int), .slice A1 n c1]) ∧ OwnL [] w1 (w.heap.size + 1) (.slice A1 n c1) sh ∧ Kp [] w w1 ∧ MapAt w1 w.heap.size 0 (.slice none 0 0)) := ⟨by
    refine (own_any ver A n c sh _ hn (hri.kp kA (by simp) (by simp)) hnil (by have := hok.2.1; omega) (fun x hx => by have := hok.2.2.1 x hx; omega)).mono ?_
    rintro e w1 ⟨A1, c1, rfl, o, k1⟩
    rw [hn, World.size_alloc] at o
    rw [hn]
    exact ⟨A1, c1, rfl, o, kA.trans k1 (by simp), (MapAt.new w _ _).kp k1 (by simp)⟩⟩
  have HN := As.mk hn
  have d1 : ¬ b = w.heap.size := by omega
  clear hb hri hc hc9 hnil hn kA hM hok
  go_enter Try.func14, Try.ntmps14
  go_wp2_with (go_at_call 45; refine HOWN.out.mono ?_; rintro e w1 ⟨A1, c1, rfl, o1, k1, m1⟩; obtain ⟨r0, r1⟩ := m1.cells; have g0 := m1.free 0; have g1 := m1.free 1; have HO := As.mk o1; have HK := As.mk k1; have HM1 := As.mk m1; clear o1 k1 m1 HOWN)
  have hz := map_set (w := w) (Nat.le_refl _) HK.out HM1.out (ver : Int) (.slice A1 n c1)
  (try simp only [Exit.inBlock, Exit.then])
  refine bodyPost_ret (res_map1 rfl rfl hz.1) rfl ?_
  have h9 : OwnL [w.heap.size] w1 (w.heap.size + 1) (.slice A1 n c1) sh := HO.out.kp (Kp.refl [] w1) (by simp) (by simp) (by intro x hx; simp at hx; right; left; omega)
  have hlt2 : ∀ a, A1 = some a → (w.heap.size + 1 ≤ a.block ∧ a.block < w1.heap.size) := (by obtain ⟨_, _, hv, _, _, _, h⟩ := HO.out.form; cases hv; exact h)
  have hk := HN.out
  refine ⟨A1, c1, by rw [hk], ?_, hz.2.1⟩
  rw [hk]
  refine (h9.kp hz.2.2 (fun x hx => .inl hx) (fun y hy hm => ?_) (by simp)).lower (by omega)
  rw [ownBlock_slice] at hy
  cases A1 with
  | none => cases hy
  | some a1 =>
    have h8 := (hlt2 a1 rfl).1
    simp at hy hm
    omega
end Go.Proofs.Ytiabdeciadfiiaa.man
