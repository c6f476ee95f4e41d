/- The document's Manifest: its block; change. -/
import Derived.Test.YtiabdeciadfiiaaManS
import Derived.Test.YtiabdeciadfiiaaManH
import Derived.Test.YtiabdeciadfiiaaMapB
import Derived.Test.YtiabdeciadfiiaaBase
namespace Go.Proofs.Ytiabdeciadfiiaa.mref
open Go.RowKit H O opk refr man

/-- the first number of bytes, by a Reader of them as they lie -/
theorem first_num {w : World} {A : Option Addr} {n c n0 : Nat} {xs : List Int} {s1 : Option (List Int)} (hn : xs.length = n) (hr : Rd w A (iv .u8 xs)) (hc : n ≤ c) (hc9 : c ≤ 9223372036854775807) (hnil : A = none → c = 0) (hA : (∀ a, A = some a → a.block < w.heap.size) ∨ n = 0) (hw : Wf xs) (hb : n ≤ 140737488351232)
    (h0 : stNum (some xs) = (n0, s1)) :
    Calls Try.prog 50 #[.pointer (some ⟨w.heap.size, 0, none⟩)] (w.alloc (.cells #[.slice A n c, .bool false] 94)) fun e w2 => e = .returned (.int .i64 (n0 : Int)) ∧ (∃ g2, Rdr w2 w.heap.size g2 s1 ∧ ∀ x, g2 = some x → x < w2.heap.size) ∧ Kp [] w w2 ∧ w.heap.size < w2.heap.size := by
  have kA : Kp [] w (w.alloc (.cells #[.slice A n c, .bool false] 94)) := (Kp.refl [] w).alloc _
  by_cases hz : n = 0
  · subst hz
    obtain rfl : xs = [] := List.eq_nil_of_length_eq_zero hn
    have e : stNum (some []) = (0, none) := by simp [stNum, dec, decF]
    rw [e] at h0
    cases h0
    refine (num_empty (A := A) (c := c) (show Emp (w.alloc (.cells #[.slice A 0 c, .bool false] 94)) w.heap.size A c from heap_alloc_new w _)).mono ?_
    rintro e w2 ⟨rfl, R2, K2⟩
    exact ⟨rfl, ⟨none, R2, by simp⟩, kA.trans K2 (by simp), R2.lt⟩
  · have hA' : ∀ a, A = some a → a.block < w.heap.size := by
      rcases hA with h | h
      · exact h
      · exact absurd h hz
    have hg : ∀ y, A.map Addr.block = some y → y < w.heap.size := by
      intro y hy
      cases A with
      | none => cases hy
      | some a => have := hA' a rfl; have : a.block = y := by simpa using hy
                  omega
    subst hn
    have R : Rdr (w.alloc (.cells #[.slice A xs.length c, .bool false] 94)) w.heap.size (A.map Addr.block) (some xs) :=
      ⟨A, c, heap_alloc_new w _, rfl, kA.rd_new hr (by simp), hc, hc9, hnil, fun e => by have := hg _ e; omega, hw⟩
    refine (num_any _ _ (some xs) _ R (by simp [left]; omega)).mono ?_
    rw [h0]
    rintro e w2 ⟨rfl, g2, R2, G2, K2⟩
    have hs := K2.size
    rw [World.size_alloc] at hs
    refine ⟨rfl, ⟨g2, R2, fun x hx => ?_⟩, kA.trans K2 (by simp), R2.lt⟩
    rcases G2 with rfl | rfl
    · have := hg x hx; omega
    · cases hx

theorem num_le {s s1 : Option (List Int)} {n : Nat} (h : stNum s = (n, s1)) : n ≤ 4611686018427387904 := by
  cases s with
  | none => simp [stNum] at h; omega
  | some q =>
    simp only [stNum] at h
    split at h
    · simp at h; omega
    · rename_i hd
      have := dec_bd hd
      simp at h
      omega
/-- The document's Manifest in block b; its shards lie in none of the blocks T. -/
structure RSt (T : List Nat) (b : Nat) (ver : Nat) (sh : List (List Int)) (done : Int) (w : World) : Prop where
  blk : ∃ A c, w.heap[b]? = some (.cells #[.int .i64 (ver : Int), .slice A sh.length c, .int .i64 done] 55 (0, 0)) ∧ Ri (b :: T) w A sh ∧ sh.length ≤ c ∧ c ≤ 9223372036854775807 ∧ (A = none → c = 0)
theorem RSt.lt {T : List Nat} {b : Nat} {ver : Nat} {sh : List (List Int)} {done : Int} {w : World} (h : RSt T b ver sh done w) : b < w.heap.size := by
  obtain ⟨A, c, h1, _⟩ := h.blk
  exact lt_of_block h1
theorem RSt.kp {S T T2 : List Nat} {b : Nat} {ver : Nat} {sh : List (List Int)} {done : Int} {w w' : World} (h : RSt T b ver sh done w) (k : Kp S w w') (hS : ∀ x ∈ S, (x ∈ T ∧ x ≠ b) ∨ w.heap.size ≤ x) (hT : ∀ x ∈ T2, x ∈ T ∨ w.heap.size ≤ x) : RSt T2 b ver sh done w' := by
  have hl := h.lt
  obtain ⟨A, c, h1, h2, h3, h4, h5⟩ := h.blk
  refine ⟨A, c, k.blk h1 (fun hm => ?_), h2.kp k (fun x hx => ?_) (fun x hx => ?_), h3, h4, h5⟩
  · rcases hS b hm with e | e
    · exact e.2 rfl
    · omega
  · rcases hS x hx with e | e
    · exact .inl (by simp [e.1])
    · exact .inr e
  · rcases List.mem_cons.1 hx with rfl | hx
    · exact .inl (by simp)
    · rcases hT x hx with e | e
      · exact .inl (by simp [e])
      · exact .inr e
/-- another map is laid -/
theorem RSt.set2 {T : List Nat} {b : Nat} {ver : Nat} {sh : List (List Int)} {done d : Int} {w : World} (h : RSt T b ver sh done w) :
    RSt T b ver sh d (w.setCell ⟨b, 2, none⟩ (.int .i64 d)) ∧ Kp [b] w (w.setCell ⟨b, 2, none⟩ (.int .i64 d)) := by
  obtain ⟨A, c, h1, h2, h3, h4, h5⟩ := h.blk
  have k1 : Kp [b] w (w.setCell ⟨b, 2, none⟩ (.int .i64 d)) := (Kp.refl _ w).setCell (.inl (by simp)) _
  exact ⟨⟨A, c, heap_setCell_same w b 2 _ _ (.int .i64 d) h1, h2.kp k1 (fun x hx => .inl (by simp at hx; simp [hx])) (fun x hx => .inl hx), h3, h4, h5⟩, k1⟩
theorem RSt.set01 {T : List Nat} {b ver ver2 n c lo : Nat} {sh l : List (List Int)} {done : Int} {w : World} {A : Option Addr} {S : List Nat} (h : RSt T b ver sh done w) (hn : l.length = n) (ho : OwnL S w lo (.slice A n c) l) (hlo : ∀ x ∈ b :: T, x < lo) :
    RSt T b ver2 l done ((w.setCell ⟨b, 0, none⟩ (.int .i64 (ver2 : Int))).setCell ⟨b, 1, none⟩ (.slice A n c)) ∧ Kp [b] w ((w.setCell ⟨b, 0, none⟩ (.int .i64 (ver2 : Int))).setCell ⟨b, 1, none⟩ (.slice A n c)) := by
  subst hn
  obtain ⟨A0, c0, h1, _⟩ := h.blk
  have k1 : Kp [b] w ((w.setCell ⟨b, 0, none⟩ (.int .i64 (ver2 : Int))).setCell ⟨b, 1, none⟩ (.slice A l.length c)) := ((Kp.refl _ w).setCell (.inl (by simp)) _).setCell (.inl (by simp)) _
  have e1 := heap_setCell_same w b 0 _ _ (.int .i64 (ver2 : Int)) h1
  have e2 := heap_setCell_same _ b 1 _ _ (.slice A l.length c) e1
  obtain ⟨_, _, hv, a1, a2, a3, _⟩ := ho.form
  cases hv
  have hri : Ri (b :: T) w A l := ho.ri (fun x hx => .inr (.inl (hlo x hx)))
  exact ⟨⟨A, c, e2, hri.kp k1 (fun x hx => .inl (by simp at hx; simp [hx])) (fun x hx => .inl hx), a1, a2, a3⟩, k1⟩
/-- a slice of rows of which one is another one -/
theorem ri_set {S : List Nat} {w : World} {g n c j : Nat} {l : List (List Int)} {vs : List Value} {u : Value} {xs : List Int} (o : w.ownsRow 0 22 1 (.slice (some ⟨g, 0, none⟩) n c) n vs) (hl : l.length = n) (hj : j < n) (hg : g ∉ S)
    (hvs : ∀ i (_ : i < l.length), ∃ Aj cj, vs[i]? = some (.slice Aj l[i].length cj) ∧ l[i].length ≤ cj ∧ (Aj = none → cj = 0) ∧ RdS (g :: S) w Aj (iv .i64 l[i]))
    (hu : ∃ Aj cj, u = .slice Aj xs.length cj ∧ xs.length ≤ cj ∧ (Aj = none → cj = 0) ∧ RdS (g :: S) w Aj (iv .i64 xs)) :
    (∃ x, w.cell? ⟨g, j, none⟩ = some x) ∧ w.frozen? ⟨g, j, none⟩ = false ∧ Ri S (w.setCell ⟨g, j, none⟩ u) (some ⟨g, 0, none⟩) (l.set j xs) := by
  subst hl
  obtain ⟨a1, a2, a3⟩ := own_store o j hj u
  have kk : Kp [g] w (w.setCell ⟨g, j, none⟩ u) := (Kp.refl _ w).setCell (.inl (by simp)) u
  have lv : vs.length = l.length := by simpa using o.1
  refine ⟨a1, a2, fun i hi => ?_⟩
  rw [List.length_set] at hi
  have hc : (w.setCell ⟨g, j, none⟩ u).cell? ((⟨g, 0, none⟩ : Addr).add i) = (vs.set j u)[i]? := by
    rw [Addr.add_lit, Nat.zero_add, a3.cellAt i (by omega)]
  by_cases e : i = j
  · subst e
    obtain ⟨Aj, cj, rfl, b1, b2, b3⟩ := hu
    refine ⟨⟨g, 0, none⟩, Aj, cj, rfl, hg, ?_, ?_, b2, ?_⟩
    · rw [hc, List.getElem?_set_self (by omega), List.getElem_set_self]
    · rw [List.getElem_set_self]; exact b1
    · rw [List.getElem_set_self]; exact b3.kp2 kk (fun x hx => .inl (by simp at hx; simp [hx])) (fun x hx => .inl (by simp [hx]))
  · obtain ⟨Aj, cj, b0, b1, b2, b3⟩ := hvs i hi
    refine ⟨⟨g, 0, none⟩, Aj, cj, rfl, hg, ?_, ?_, b2, ?_⟩
    · rw [hc, List.getElem?_set_ne (Ne.symm e), List.getElem_set_ne (Ne.symm e)]; exact b0
    · rw [List.getElem_set_ne (Ne.symm e)]; exact b1
    · rw [List.getElem_set_ne (Ne.symm e)]; exact b3.kp2 kk (fun x hx => .inl (by simp at hx; simp [hx])) (fun x hx => .inl (by simp [hx]))

def ChangePost (T : List Nat) (b : Nat) (ver : Nat) (sh : List (List Int)) (done : Int) (xs : List Int) (w : World) (e : Ending) (w' : World) : Prop :=
  e = .returned (.int .i64 (mDo ver sh xs).2.2) ∧ RSt T b (mDo ver sh xs).1 (mDo ver sh xs).2.1 done w' ∧ Kp [b] w w'
theorem ChangePost.err {T : List Nat} {b : Nat} {ver : Nat} {sh : List (List Int)} {done z : Int} {xs : List Int} {w w' : World} (h : mDo ver sh xs = (ver, sh, z)) (hm : RSt T b ver sh done w') (k : Kp [] w w') : ChangePost T b ver sh done xs w (.returned (.int .i64 z)) w' :=
  ⟨by rw [h], by rw [h]; exact hm, k.mono (by simp)⟩

/-- the rows' values, where they lie -/
theorem ri_vals {S : List Nat} {w : World} {A : Option Addr} {l : List (List Int)} (h : Ri S w A l) : ∃ vs : List Value, vs.length = l.length ∧ Rd w A vs ∧ (∀ u ∈ vs, u.oneCell' = true) ∧
    ∀ j (_ : j < l.length), ∃ Aj cj, vs[j]? = some (.slice Aj l[j].length cj) ∧ l[j].length ≤ cj ∧ (Aj = none → cj = 0) ∧ RdS S w Aj (iv .i64 l[j]) := by
  obtain ⟨vs, h1, h2, h3, h4⟩ := man.Ri.vals (h.sub (by simp))
  refine ⟨vs, h1, h2, h3, fun j hj => ?_⟩
  obtain ⟨Aj, cj, e, _, _⟩ := h4 j hj
  obtain ⟨a, Bj, dj, ha, _, hc, b1, b2, b3⟩ := h j hj
  obtain ⟨a', ha', hc'⟩ := h2 j _ e
  rw [ha] at ha'
  cases ha'
  rw [hc] at hc'
  cases hc'
  exact ⟨Aj, cj, e, b1, b2, b3⟩

theorem ChangePost.moved {T : List Nat} {b ver n n1 c0 c2 g2 lo : Nat} {sh : List (List Int)} {l : List Int} {vs : List Value} {u : Value} {done : Int} {xs : List Int} {w wa W1 W2 : World} {A0 : Option Addr} (h : mDo ver sh xs = (ver + 1, sh.set n1 l, 0)) (k : Kp [] w wa) (hT : ∀ x ∈ T, x < w.heap.size) (hb : b < w.heap.size)
    (hn : sh.length = n) (hj : n1 < n) (hc : wa.heap[b]? = some (.cells #[.int .i64 (ver : Int), .slice A0 n c0, .int .i64 done] 55 (0, 0))) (hvs : ∀ j (_ : j < sh.length), ∃ Aj cj, vs[j]? = some (.slice Aj sh[j].length cj) ∧ sh[j].length ≤ cj ∧ (Aj = none → cj = 0) ∧ RdS (b :: T) wa Aj (iv .i64 sh[j]))
    (hW : W1 = wa.setCell ⟨b, 0, none⟩ (.int .i64 ((ver : Int) + 1))) (k12 : Kp [] W1 W2) (hg2 : W1.heap.size ≤ g2) (o2 : W2.ownsRow 0 22 1 (.slice (some ⟨g2, 0, none⟩) n c2) n vs) (hu : Own 3 .i64 wa lo u l) (hlo : w.heap.size ≤ lo) :
    W2.cell? ⟨b, 1, none⟩ = some (.slice A0 n c0) ∧ W2.frozen? ⟨b, 1, none⟩ = false ∧ (∃ x, W2.cell? ⟨g2, n1, none⟩ = some x) ∧ W2.frozen? ⟨g2, n1, none⟩ = false ∧ ¬ g2 = b ∧
      ChangePost T b ver sh done xs w (.returned (.int .i64 0)) ((W2.setCell ⟨b, 1, none⟩ (.slice (some ⟨g2, 0, none⟩) n c2)).setCell ⟨g2, n1, none⟩ u) := by
  have hwa := k.size
  have hbx : ∀ x ∈ b :: T, x < w.heap.size := by
    intro x hx
    rcases List.mem_cons.1 hx with rfl | hx
    · exact hb
    · exact hT x hx
  have e1 := heap_setCell_same wa b 0 _ _ (.int .i64 ((ver : Int) + 1)) hc
  rw [← hW] at e1
  have k1 : Kp [b] wa W1 := by rw [hW]; exact (Kp.refl _ wa).setCell (.inl (by simp)) _
  have hs1 := k1.size
  have e2 := k12.blk e1 (by simp)
  have hg2l : g2 < W2.heap.size := own_lt o2 g2 rfl
  have hgb : g2 ∉ b :: T := fun hm => by have := hbx g2 hm; omega
  have hgb' : ¬ g2 = b := fun e => hgb (by simp [e])
  have k3 : Kp [b] W2 (W2.setCell ⟨b, 1, none⟩ (.slice (some ⟨g2, 0, none⟩) n c2)) := (Kp.refl _ W2).setCell (.inl (by simp)) _
  have e3 := heap_setCell_same W2 b 1 _ _ (.slice (some ⟨g2, 0, none⟩) n c2) e2
  have o3 := k3.own o2 (fun y hy hm => by
    have : g2 = y := by simpa [Value.ownBlock] using hy
    simp at hm
    exact hgb' (by rw [this, hm]))
  have ka : Kp [b] wa (W2.setCell ⟨b, 1, none⟩ (.slice (some ⟨g2, 0, none⟩) n c2)) := (k1.trans k12 (by simp)).trans k3 (fun x hx => .inl hx)
  have hrow : ∀ {Aj : Option Addr} {ys : List Int}, RdS (b :: T) wa Aj (iv .i64 ys) → RdS (g2 :: b :: T) (W2.setCell ⟨b, 1, none⟩ (.slice (some ⟨g2, 0, none⟩) n c2)) Aj (iv .i64 ys) := fun hr =>
    hr.kp2 ka (fun x hx => .inl (by simp at hx; simp [hx])) (fun x hx => by
      rcases List.mem_cons.1 hx with rfl | hx
      · exact .inr (by omega)
      · exact .inl hx)
  obtain ⟨A5, c5, rfl, u1, _, ur, u2⟩ := own_rd hu.1
  obtain ⟨s1, s2, s3⟩ := ri_set (S := b :: T) (j := n1) (u := .slice A5 l.length c5) (xs := l) (l := sh) o3 hn hj hgb
    (fun i hi => by
      obtain ⟨Aj, cj, b0, b1, b2, b3⟩ := hvs i hi
      exact ⟨Aj, cj, b0, b1, b2, hrow b3⟩)
    ⟨A5, c5, rfl, u1, u2, hrow (fun j v hv => by
      obtain ⟨a, ha, hc⟩ := ur j v hv
      refine ⟨a, ha, fun hm => ?_, hc⟩
      have h1 := hbx _ hm
      have h2 := hu.2 a.block (by rw [ha]; rfl)
      omega)⟩
  have k4 : Kp [g2] (W2.setCell ⟨b, 1, none⟩ (.slice (some ⟨g2, 0, none⟩) n c2)) ((W2.setCell ⟨b, 1, none⟩ (.slice (some ⟨g2, 0, none⟩) n c2)).setCell ⟨g2, n1, none⟩ (.slice A5 l.length c5)) := (Kp.refl _ _).setCell (.inl (by simp)) _
  have e4 := k4.blk e3 (by simp; exact fun e => hgb' e.symm)
  refine ⟨blk_cell e2 1 rfl, blk_free e2 1, ?_, o2.frozenAt n1, hgb', by rw [h], ?_, ?_⟩
  · have lv : vs.length = n := by simpa using o2.1
    rw [o2.cellAt n1 (by omega)]
    exact ⟨_, List.getElem?_eq_getElem (by omega)⟩
  · rw [h]
    have hcc : n ≤ c2 := by
      obtain ⟨_, _, hv, h1, _⟩ := own_rd o2
      cases hv
      exact h1
    have hcm : c2 ≤ 9223372036854775807 := by
      obtain ⟨_, _, hv, _, h1, _⟩ := own_rd o2
      cases hv
      exact h1
    refine ⟨some ⟨g2, 0, none⟩, c2, ?_, s3, by rw [List.length_set, hn]; exact hcc, hcm, by simp⟩
    have hv : ((ver + 1 : Nat) : Int) = (ver : Int) + 1 := by omega
    rw [List.length_set, hn]
    dsimp only
    rw [hv]
    exact e4
  · exact ((k.mono (T := [b]) (by simp)).trans ka (fun x hx => .inl hx)).trans k4 (by intro x hx; simp at hx; right; omega)

theorem RL.not_whole {s s' : Option (List Int)} {xs : List Int} (h : RL s xs s') (hs : s' ≠ some []) : (rdN s).2 ≠ some [] := by
  obtain ⟨h1, h2, h3⟩ := h
  cases e : s' with
  | none => rw [h1 e]; simp
  | some r =>
    cases hg : grp xs with
    | false => rw [h3 (by rw [e]; rfl) hg]; simp
    | true => rw [h2 (by rw [e]; rfl) hg]; exact hs

set_option maxHeartbeats 8000000 in
set_option maxRecDepth 100000 in
theorem change_any (T : List Nat) (b : Nat) (ver : Nat) (sh : List (List Int)) (done : Int) (A : Option Addr) (n c : Nat) (xs : List Int) (w : World) (hM : RSt T b ver sh done w) (hok : MapOk ver sh) (hT : ∀ x ∈ T, x < w.heap.size)
    (hn : xs.length = n) (hr : Rd w A (iv .u8 xs)) (hc : n ≤ c) (hc9 : c ≤ 9223372036854775807) (hnil : A = none → c = 0) (hA : (∀ a, A = some a → a.block < w.heap.size) ∨ n = 0) (hb : n ≤ 140737488351232) (hw : Wf xs) :
    Calls Try.prog 58 #[.pointer (some ⟨b, 0, none⟩), .slice A n c] w (ChangePost T b ver sh done xs w) := by
  obtain ⟨k0, s1, h0n⟩ : ∃ k0 s1, stNum (some xs) = (k0, s1) := ⟨_, _, rfl⟩
  have hbl := hM.lt
  have hxl : (left (some xs)).length ≤ 140737488351232 := by simp [left]; omega
  have hl1 : (left s1).length ≤ 140737488351232 := by have := left_num hxl; rwa [h0n] at this
  have hver : ver ≤ 1099511627777 := hok.1
  have HNUM := As.mk (first_num hn hr hc hc9 hnil hA hw hb h0n)
  have HM := As.mk hM
  have HT := As.mk hT
  have HW := As.mk hw
  have HOK := As.mk hok
  have H0N := As.mk h0n
  have HL1 := As.mk hl1
  have HBL := As.mk hbl
  have HB9 : As (∀ x ∈ b :: T, x < w.heap.size) := ⟨fun x hx => by
    rcases List.mem_cons.1 hx with rfl | hx
    · exact hbl
    · exact hT x hx⟩
  clear hM hT hn hr hnil hw h0n hxl hl1 hok hc hc9 hA
  by_cases h1 : k0 = 1
  · subst h1
    obtain ⟨l, s2, hg⟩ : ∃ l s2, rdG s1 = (l, s2) := ⟨_, _, rfl⟩
    have hq := mDo_eq1 (ver := ver) (sh := sh) H0N.out hg
    have HQ := As.mk hq
    have HRS : As (∀ w2 gr, Rdr w2 w.heap.size gr s1 → (∀ x, gr = some x → x < w2.heap.size) → Kp [] w w2 → Calls Try.prog 51 #[.pointer (some ⟨w.heap.size, 0, none⟩)] w2 fun e w3 => ∃ A3 c3 l3 m3, e = .returned (.slice A3 m3 c3) ∧ l3.length = m3 ∧ (s2.isSome → l3 = l) ∧ OwnL [w.heap.size] w3 w2.heap.size (.slice A3 m3 c3) l3 ∧ m3 ≤ 8 ∧ (∃ g3, Rdr w3 w.heap.size g3 s2) ∧ Kp [] w w3) := ⟨by
      intro w2 gr R2 hgr k2
      refine (readLists_any w.heap.size gr s1 w2 R2 hgr (by have := HL1.out; omega)).mono ?_
      rw [show ListsPost w.heap.size gr s1 w2 = ListsPost w.heap.size gr s1 w2 from rfl]
      rintro e w3 ⟨l3, hl3, h83, v, rfl, ho, g3, R3, G3, K3⟩
      rw [hg] at hl3 R3
      obtain ⟨A3, c3, rfl, _, _, _, _⟩ := ho.form
      exact ⟨A3, c3, l3, _, rfl, rfl, hl3, ho, h83, ⟨g3, R3⟩, k2.trans K3 (by simp)⟩⟩
    clear hq hg
    go_enter Try.func58, Try.ntmps58
    go_upto_region 5 with (first
      | (go_at_call 50; refine HNUM.out.mono ?_; rintro e w2 ⟨rfl, ⟨g2, R2, G2⟩, K2, S2⟩; have HS2 := As.mk (HRS.out w2 g2 R2 G2 K2); have HK2 := As.mk K2.size; clear R2 G2 K2 S2 HNUM)
      | (go_at_call 51; refine HS2.out.mono ?_; rintro e w3 ⟨A3, c3, l3, m3, rfl, hl3, hi3, O3, L3, ⟨g3, D3⟩, K3⟩; have HK3 := As.mk K3; have HO3 := As.mk O3; have HL3 := As.mk hl3; have HI3 := As.mk hi3; have HW3 := As.mk (whole_any w.heap.size g3 s2 w3 D3); clear hl3 hi3 O3 D3 K3 HS2))
    cases hwh : whole s2 with
    | false =>
      have HE : As (mDo ver sh xs = (ver, sh, 3)) := ⟨by rw [HQ.out, if_neg]; intro h; rw [h.1] at hwh; simp [whole] at hwh⟩
      rw [hwh] at HW3
      clear hwh
      go_wp2_with (go_at_call 52; refine HW3.out.mono ?_; rintro e w5 ⟨rfl, rfl⟩; clear HW3)
      go_ret
      exact ChangePost.err HE.out (HM.out.kp HK3.out (by simp) (fun x hx => .inl hx)) HK3.out
    | true =>
      have hs2 : s2 = some [] := by simpa [whole] using hwh
      rw [hwh] at HW3
      have hll : l3 = l := HI3.out (by rw [hs2]; rfl)
      by_cases hl0 : m3 = 0
      · have HE : As (mDo ver sh xs = (ver, sh, 3)) := ⟨by rw [HQ.out, if_neg]; intro h; exact h.2 (by rw [← hll]; exact List.eq_nil_of_length_eq_zero (by rw [HL3.out]; exact hl0))⟩
        subst hl0
        clear hwh hs2 hll
        go_wp2_with (go_at_call 52; refine HW3.out.mono ?_; rintro e w5 ⟨rfl, rfl⟩; clear HW3)
        go_ret
        exact ChangePost.err HE.out (HM.out.kp HK3.out (by simp) (fun x hx => .inl hx)) HK3.out
      · have b0 : ((m3 : Int) == 0) = false := by rw [beq_eq_false_iff_ne]; omega
        have hne : l ≠ [] := fun e => hl0 (by rw [← HL3.out, hll, e]; rfl)
        have hm3 := HM.out.kp HK3.out (by simp) (fun x hx => .inl hx) (T2 := T)
        obtain ⟨A0, c0, hb3, _⟩ := id hm3.blk
        have q0 := blk_cell hb3 0 rfl
        have q1 := blk_cell hb3 1 rfl
        have f0 := blk_free hb3 0
        have f1 := blk_free hb3 1
        by_cases hv : 0 < ver
        · have HE : As (mDo ver sh xs = (ver, sh, 8)) := ⟨by rw [HQ.out, if_pos ⟨hs2, hne⟩, if_pos hv]⟩
          have HM3 := As.mk hm3
          clear hwh hs2 hll hne hl0 hb3 hm3
          go_wp2_with (go_at_call 52; refine HW3.out.mono ?_; rintro e w5 ⟨rfl, rfl⟩; clear HW3)
          go_ret
          exact ChangePost.err HE.out HM3.out HK3.out
        · have HE : As (mDo ver sh xs = (1, l, 0)) := ⟨by rw [HQ.out, if_pos ⟨hs2, hne⟩, if_neg hv]⟩
          have hS := hm3.set01 (ver2 := 1) HL3.out HO3.out (fun x hx => Nat.lt_of_lt_of_le (HB9.out x hx) HK2.out)
          have HS := As.mk hS
          have HLL := As.mk hll
          obtain rfl : ver = 0 := by omega
          clear hwh hs2 hll hne hl0 hb3 hm3 hS
          go_wp2_with (go_at_call 52; refine HW3.out.mono ?_; rintro e w5 ⟨rfl, rfl⟩; clear HW3)
          go_ret
          refine ⟨by rw [HE.out]; rfl, ?_, (HK3.out.mono (T := [b]) (by simp)).trans HS.out.2 (fun x hx => .inl hx)⟩
          rw [HE.out, ← HLL.out]
          exact HS.out.1
  · by_cases h2 : k0 = 2
    · subst h2
      obtain ⟨n0, s2, h1n⟩ : ∃ n s, stNum s1 = (n, s) := ⟨_, _, rfl⟩
      obtain ⟨n1, s3, h2n⟩ : ∃ n s, stNum s2 = (n, s) := ⟨_, _, rfl⟩
      have hl2 : (left s2).length ≤ 140737488351232 := by have := left_num HL1.out; rwa [h1n] at this
      have hl3 : (left s3).length ≤ 140737488351232 := by have := left_num hl2; rwa [h2n] at this
      have HQ : As (∀ l s4, rdN s3 = (l, s4) → mDo ver sh xs = if s4 = some [] ∧ 1 ≤ n0 ∧ n0 ≤ 1099511627776 ∧ n1 < 8 then (if sh.length ≤ n1 then (ver, sh, 7) else if n0 ≠ ver then (ver, sh, 13) else (ver + 1, sh.set n1 l, 0)) else (ver, sh, 3)) := ⟨fun l s4 h => mDo_eq2 H0N.out h1n h2n h⟩
      have HN1 : As (∀ w2 gr, Rdr w2 w.heap.size gr s1 → (∀ x, gr = some x → x < w2.heap.size) → Kp [] w w2 → Calls Try.prog 50 #[.pointer (some ⟨w.heap.size, 0, none⟩)] w2 fun e w3 => e = .returned (.int .i64 (n0 : Int)) ∧ (∃ g3, Rdr w3 w.heap.size g3 s2 ∧ ∀ x, g3 = some x → x < w3.heap.size) ∧ Kp [] w w3) := ⟨by
        intro w2 gr R2 hgr k2
        refine (num_any w.heap.size gr s1 w2 R2 (by have := HL1.out; omega)).mono ?_
        rw [h1n]
        rintro e w3 ⟨rfl, g3, R3, G3, K3⟩
        have hs := K3.size
        refine ⟨rfl, ⟨g3, R3, fun x hx => ?_⟩, k2.trans K3 (by simp)⟩
        rcases G3 with rfl | rfl
        · have := hgr x hx; omega
        · cases hx⟩
      have HN2 : As (∀ w2 gr, Rdr w2 w.heap.size gr s2 → (∀ x, gr = some x → x < w2.heap.size) → Kp [] w w2 → Calls Try.prog 50 #[.pointer (some ⟨w.heap.size, 0, none⟩)] w2 fun e w3 => e = .returned (.int .i64 (n1 : Int)) ∧ (∃ g3, Rdr w3 w.heap.size g3 s3 ∧ ∀ x, g3 = some x → x < w3.heap.size) ∧ Kp [] w w3) := ⟨by
        intro w2 gr R2 hgr k2
        refine (num_any w.heap.size gr s2 w2 R2 (by omega)).mono ?_
        rw [h2n]
        rintro e w3 ⟨rfl, g3, R3, G3, K3⟩
        have hs := K3.size
        refine ⟨rfl, ⟨g3, R3, fun x hx => ?_⟩, k2.trans K3 (by simp)⟩
        rcases G3 with rfl | rfl
        · have := hgr x hx; omega
        · cases hx⟩
      have HRL : As (∀ w2 gr, Rdr w2 w.heap.size gr s3 → (∀ x, gr = some x → x < w2.heap.size) → Kp [] w w2 → w.heap.size < w2.heap.size → Calls Try.prog 77 #[.pointer (some ⟨w.heap.size, 0, none⟩)] w2 fun e w3 => ∃ A3 c3 l3 m3 s4, e = .returned (.slice A3 m3 c3) ∧ l3.length = m3 ∧ m3 ≤ 18 ∧ RL s3 l3 s4 ∧ Own 3 .i64 w3 (w.heap.size + 1) (.slice A3 m3 c3) l3 ∧ (∃ g3, Rdr w3 w.heap.size g3 s4) ∧ Kp [] w w3) := ⟨by
        intro w2 gr R2 hgr k2 hlt
        refine (readList_any w.heap.size gr s3 w2 R2 hgr (by omega)).mono ?_
        rintro e w3 ⟨l3, s4, hrl, h18, v, rfl, ho, g3, R3, G3, K3⟩
        obtain ⟨A3, c3, rfl, _, _, _, _⟩ := own_rd ho.1
        exact ⟨A3, c3, l3, _, s4, rfl, rfl, h18, hrl, ho.lower (by omega), ⟨g3, R3⟩, k2.trans K3 (by simp)⟩⟩
      have hn0 : n0 ≤ 4611686018427387904 := num_le h1n
      have hn1 : n1 ≤ 4611686018427387904 := num_le h2n
      clear h1n h2n hl2 hl3 h1
      go_enter Try.func58, Try.ntmps58
      go_upto_region 14 with (first
        | (go_at_call 50; refine HX3.out.mono ?_; rintro e w4 ⟨rfl, ⟨g4, R4, G4⟩, K4⟩; have HX4 := As.mk (HRL.out w4 g4 R4 G4 K4 (by have h9 := R4.lt; omega)); clear R4 G4 K4 HX3)
        | (go_at_call 50; refine HX2.out.mono ?_; rintro e w3 ⟨rfl, ⟨g3, R3, G3⟩, K3⟩; have HX3 := As.mk (HN2.out w3 g3 R3 G3 K3); clear R3 G3 K3 HX2)
        | (go_at_call 50; refine HNUM.out.mono ?_; rintro e w2 ⟨rfl, ⟨g2, R2, G2⟩, K2, S2⟩; have HX2 := As.mk (HN1.out w2 g2 R2 G2 K2); clear R2 G2 K2 S2 HNUM)
        | (go_at_call 77; refine HX4.out.mono ?_; rintro e w5 ⟨A5, c5, l5, m5, s5, rfl, hl5, hm5, hrl5, O5, ⟨g5, D5⟩, K5⟩; have HK5 := As.mk K5; have HO5 := As.mk O5; have HL5 := As.mk hl5; have HRL5 := As.mk hrl5; have HW5 := As.mk (whole_any w.heap.size g5 s5 w5 D5); clear hl5 hrl5 O5 D5 K5 HX4))
      cases hwh : whole s5 with
      | false =>
        have HE : As (mDo ver sh xs = (ver, sh, 3)) := ⟨by rw [HQ.out (rdN s3).1 (rdN s3).2 rfl, if_neg]; intro h; exact HRL5.out.not_whole (by intro e; rw [e] at hwh; simp [whole] at hwh) h.1⟩
        rw [hwh] at HW5
        clear hwh
        go_wp2_with (go_at_call 52; refine HW5.out.mono ?_; rintro e w6 ⟨rfl, rfl⟩; clear HW5)
        go_ret
        exact ChangePost.err HE.out (HM.out.kp HK5.out (by simp) (fun x hx => .inl hx)) HK5.out
      | true =>
        have hs5 : s5 = some [] := by simpa [whole] using hwh
        rw [hwh] at HW5
        have r5 : Rd w5 A5 (iv .i64 l5) := by
          obtain ⟨_, _, hv, _, _, r, _⟩ := own_rd HO5.out.1
          cases hv
          exact r
        have HGR := As.mk (group_any A5 m5 c5 l5 w5 HL5.out r5 (by omega))
        cases hgr : grp l5 with
        | false =>
          have HE : As (mDo ver sh xs = (ver, sh, 3)) := ⟨by rw [HQ.out (rdN s3).1 (rdN s3).2 rfl, if_neg]; intro h; rw [HRL5.out.2.2 (by rw [hs5]; rfl) hgr] at h; cases h.1⟩
          rw [hgr] at HGR
          clear hgr r5 hs5 hwh
          go_wp2_with (first
            | (go_at_call 52; refine HW5.out.mono ?_; rintro e w6 ⟨rfl, rfl⟩; clear HW5)
            | (go_at_call 55; refine HGR.out.mono ?_; rintro e w7 ⟨rfl, q, rfl⟩; clear HGR))
          go_ret
          exact ChangePost.err HE.out (HM.out.kp (HK5.out.drewN q) (by simp) (fun x hx => .inl hx)) (HK5.out.drewN q)
        | true =>
          have hrd : rdN s3 = (l5, some []) := by rw [HRL5.out.2.1 (by rw [hs5]; rfl) hgr, hs5]
          have HQ2 : As (mDo ver sh xs = if (1 ≤ n0 ∧ n0 ≤ 1099511627776) ∧ n1 < 8 then (if sh.length ≤ n1 then (ver, sh, 7) else if n0 ≠ ver then (ver, sh, 13) else (ver + 1, sh.set n1 l5, 0)) else (ver, sh, 3)) := ⟨by rw [HQ.out _ _ hrd]; simp [and_assoc]⟩
          rw [hgr] at HGR
          obtain ⟨ns, hns⟩ : ∃ ns, sh.length = ns := ⟨_, rfl⟩
          rw [hns] at HQ2
          have HNS := As.mk hns
          have hm5 := fun q => HM.out.kp (HK5.out.drewN q) (by simp) (fun x hx => .inl hx) (T2 := T)
          obtain ⟨A0, c0, hb5, hri, hcc, hcm, hn0l⟩ := (HM.out.kp HK5.out (by simp) (fun x hx => .inl hx) (T2 := T)).blk
          rw [hns] at hb5 hcc
          have HRI := As.mk hri
          have HB5 := As.mk hb5
          have HNL := As.mk hn0l
          have q0 := blk_cell hb5 0 rfl
          have q1 := blk_cell hb5 1 rfl
          have f0 := blk_free hb5 0
          have f1 := blk_free hb5 1
          have HM5 := As.mk hm5
          have hns9 : ns ≤ 8 := by rw [← hns]; exact HOK.out.2.1
          have HV0 : As (ver = 0 → ns = 0) := ⟨fun e => by rw [← hns, (HOK.out.2.2.2).1 e]; rfl⟩
          clear hgr r5 hs5 hwh hrd hns hb5 hri hn0l hm5
          by_cases hbad : (1 ≤ n0 ∧ n0 ≤ 1099511627776) ∧ n1 < 8
          · obtain ⟨⟨v1, v2⟩, v3⟩ := hbad
            by_cases h7 : ns ≤ n1
            · have HE : As (mDo ver sh xs = (ver, sh, 7)) := ⟨by rw [HQ2.out, if_pos ⟨⟨v1, v2⟩, v3⟩, if_pos h7]⟩
              by_cases hv0 : ver = 0
              · subst hv0
                go_wp2_with (first
                  | (go_at_call 52; refine HW5.out.mono ?_; rintro e w6 ⟨rfl, rfl⟩; clear HW5)
                  | (go_at_call 55; refine HGR.out.mono ?_; rintro e w7 ⟨rfl, q, rfl⟩; clear HGR))
                go_ret
                exact ChangePost.err HE.out (HM5.out q) (HK5.out.drewN q)
              · have b0 : ((ver : Int) == 0) = false := by rw [beq_eq_false_iff_ne]; omega
                clear hv0
                go_wp2_with (first
                  | (go_at_call 52; refine HW5.out.mono ?_; rintro e w6 ⟨rfl, rfl⟩; clear HW5)
                  | (go_at_call 55; refine HGR.out.mono ?_; rintro e w7 ⟨rfl, q, rfl⟩; clear HGR))
                go_ret
                exact ChangePost.err HE.out (HM5.out q) (HK5.out.drewN q)
            · have hv0 : ver ≠ 0 := fun e => by have := HV0.out e; omega
              have b0 : ((ver : Int) == 0) = false := by rw [beq_eq_false_iff_ne]; omega
              by_cases h13 : n0 = ver
              · subst h13
                have HE : As (mDo n0 sh xs = (n0 + 1, sh.set n1 l5, 0)) := ⟨by rw [HQ2.out, if_pos ⟨⟨v1, v2⟩, v3⟩, if_neg h7, if_neg (by simp)]⟩
                have e13 : ((n0 : Int) != (n0 : Int)) = false := by simp
                have hlt : n1 < ns := by omega
                obtain ⟨vs, hvl, hvr, hv1, hvj⟩ := ri_vals HRI.out
                have HVL : As (vs.length = ns) := ⟨by rw [hvl]; exact HNS.out⟩
                have HVR := As.mk hvr
                have HV1 := As.mk hv1
                have HVJ := As.mk hvj
                have HRA : As (∀ q, Rd (((w5.drewN q).setCell ⟨b, 0, none⟩ (.int .i64 ((n0 : Int) + 1))).alloc (.cells #[] 22)) A0 vs) := ⟨fun q => by
                  have k0 : Kp [b] w5 (((w5.drewN q).setCell ⟨b, 0, none⟩ (.int .i64 ((n0 : Int) + 1))).alloc (.cells #[] 22)) := ((((Kp.refl [b] w5).drewN q).setCell (.inl (by simp)) _)).alloc _
                  refine k0.rd hvr (fun a ha hm => ?_)
                  have hlt' : 0 < sh.length := by have := HNS.out; omega
                  obtain ⟨a', _, _, ha', hnm, _⟩ := HRI.out 0 hlt'
                  rw [ha] at ha'
                  cases ha'
                  simp at hm
                  exact hnm (by simp [hm])⟩
                have HMV : As (∀ q W2 v2, W2.ownsRow 0 22 1 v2 (0 + ns) ([] ++ vs) → Kp (Value.slice (some ⟨w5.heap.size, 0, none⟩) 0 0).ownBlock.toList (((w5.drewN q).setCell ⟨b, 0, none⟩ (.int .i64 ((n0 : Int) + 1))).alloc (.cells #[] 22)) W2 → At (w5.heap.size + 1) (Value.slice (some ⟨w5.heap.size, 0, none⟩) 0 0).ownBlock v2.ownBlock →
                    ∃ g2 c2, v2 = .slice (some ⟨g2, 0, none⟩) ns c2 ∧ W2.cell? ⟨b, 1, none⟩ = some (.slice A0 ns c0) ∧ W2.frozen? ⟨b, 1, none⟩ = false ∧ (∃ x, W2.cell? ⟨g2, n1, none⟩ = some x) ∧ W2.frozen? ⟨g2, n1, none⟩ = false ∧ ¬ g2 = b ∧
                      ChangePost T b n0 sh done xs w (.returned (.int .i64 0)) ((W2.setCell ⟨b, 1, none⟩ (.slice (some ⟨g2, 0, none⟩) ns c2)).setCell ⟨g2, n1, none⟩ (.slice A5 m5 c5))) := ⟨by
                  intro q W2 v2 o2 k2 a2
                  have o2' : W2.ownsRow 0 22 1 v2 ns vs := by simpa using o2
                  obtain ⟨g2, c2, rfl, _, _⟩ := own_form o2' (by omega)
                  have hsz : ((w5.drewN q).setCell ⟨b, 0, none⟩ (.int .i64 ((n0 : Int) + 1))).heap.size = w5.heap.size := by simp
                  have kW : Kp [] ((w5.drewN q).setCell ⟨b, 0, none⟩ (.int .i64 ((n0 : Int) + 1))) W2 := kp_of_new (by rw [hsz]; exact k2)
                  refine ⟨g2, c2, rfl, ChangePost.moved HE.out (HK5.out.drewN q) HT.out HBL.out HNS.out hlt HB5.out hvj rfl kW ?_ o2' (HO5.out.kp ((Kp.refl [] w5).drewN q) (by simp)) (by omega)⟩
                  rcases a2 with e | ⟨y, e, hy⟩
                  · have : g2 = w5.heap.size := by simpa [Value.ownBlock] using e
                    rw [hsz]; omega
                  · have : g2 = y := by simpa [Value.ownBlock] using e
                    rw [hsz]; omega⟩
                have HO0 : As (∀ q, (((w5.drewN q).setCell ⟨b, 0, none⟩ (.int .i64 ((n0 : Int) + 1))).alloc (.cells #[] 22)).ownsRow 0 22 1 (.slice (some ⟨w5.heap.size, 0, none⟩) 0 0) 0 []) := ⟨fun q => by
                  have h9 := own_new ((w5.drewN q).setCell ⟨b, 0, none⟩ (.int .i64 ((n0 : Int) + 1))) [] 22 (Nat.zero_le _)
                  rw [World.size_setCell] at h9
                  exact h9⟩
                have hbw5 : b < w5.heap.size := lt_of_block HB5.out
                have d1 : ¬ b = w5.heap.size := by omega
                clear hvl hvr hv1 hvj hv0 h7
                go_wp2_with (first
                  | (go_at_call 52; refine HW5.out.mono ?_; rintro e w6 ⟨rfl, rfl⟩; clear HW5)
                  | (go_at_call 55; refine HGR.out.mono ?_; rintro e w7 ⟨rfl, q, rfl⟩; clear HGR)
                  | (at_builtin; refine wpList_app rfl (.tmp 103) (.tmp 108) 32 rfl 22 (.slice none 0 0) 1 24 Try.underlying32 info_row rfl (by decide) (.slice (some ⟨w6.heap.size, 0, none⟩) 0 0) 0 [] rfl (HO0.out q) A0 ns c0 vs rfl (by rw [HVL.out, Nat.mul_one]) (HRA.out q) HNL.out HV1.out (by omega) (by omega) ?_; intro v2 W2 o2 k2 a2 _; obtain ⟨g2, c2, rfl, z1, z2, ⟨z3, z4⟩, z5, z6, z7⟩ := HMV.out q W2 v2 o2 k2 (by simpa using a2); have HFN := As.mk z7; clear o2 k2 a2 z7))
                go_ret
                exact HFN.out
              · have HE : As (mDo ver sh xs = (ver, sh, 13)) := ⟨by rw [HQ2.out, if_pos ⟨⟨v1, v2⟩, v3⟩, if_neg h7, if_pos h13]⟩
                have e13 : ((n0 : Int) != (ver : Int)) = true := by simp; omega
                clear h13 hv0
                go_wp2_with (first
                  | (go_at_call 52; refine HW5.out.mono ?_; rintro e w6 ⟨rfl, rfl⟩; clear HW5)
                  | (go_at_call 55; refine HGR.out.mono ?_; rintro e w7 ⟨rfl, q, rfl⟩; clear HGR))
                go_ret
                exact ChangePost.err HE.out (HM5.out q) (HK5.out.drewN q)
          · have HE : As (mDo ver sh xs = (ver, sh, 3)) := ⟨by rw [HQ2.out, if_neg hbad]⟩
            by_cases v1 : n0 < 1
            · go_wp2_with (first
                | (go_at_call 52; refine HW5.out.mono ?_; rintro e w6 ⟨rfl, rfl⟩; clear HW5)
                | (go_at_call 55; refine HGR.out.mono ?_; rintro e w7 ⟨rfl, q, rfl⟩; clear HGR))
              go_ret
              exact ChangePost.err HE.out (HM5.out q) (HK5.out.drewN q)
            · by_cases v2 : 1099511627776 < n0
              · go_wp2_with (first
                  | (go_at_call 52; refine HW5.out.mono ?_; rintro e w6 ⟨rfl, rfl⟩; clear HW5)
                  | (go_at_call 55; refine HGR.out.mono ?_; rintro e w7 ⟨rfl, q, rfl⟩; clear HGR))
                go_ret
                exact ChangePost.err HE.out (HM5.out q) (HK5.out.drewN q)
              · have v3 : 8 ≤ n1 := by omega
                clear hbad
                go_wp2_with (first
                  | (go_at_call 52; refine HW5.out.mono ?_; rintro e w6 ⟨rfl, rfl⟩; clear HW5)
                  | (go_at_call 55; refine HGR.out.mono ?_; rintro e w7 ⟨rfl, q, rfl⟩; clear HGR))
                go_ret
                exact ChangePost.err HE.out (HM5.out q) (HK5.out.drewN q)
    · have HE : As (mDo ver sh xs = (ver, sh, 3)) := ⟨mDo_eq3 H0N.out h1 h2⟩
      have b1 : ((k0 : Int) == 1) = false := by simp; omega
      have b2 : ((k0 : Int) == 2) = false := by simp; omega
      clear h1 h2
      go_enter Try.func58, Try.ntmps58
      go_wp2_with (first
        | (go_at_call 50; refine HNUM.out.mono ?_; rintro e w2 ⟨rfl, _, K2, _⟩; have HK2 := As.mk K2; clear K2 HNUM))
      go_ret
      exact ChangePost.err HE.out (HM.out.kp HK2.out (by simp) (fun x hx => .inl hx)) HK2.out
end Go.Proofs.Ytiabdeciadfiiaa.mref
