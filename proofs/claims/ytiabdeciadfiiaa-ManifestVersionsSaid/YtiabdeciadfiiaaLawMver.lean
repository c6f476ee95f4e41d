/- The walk of ManifestVersions: only a change that knows the Version is done; each that is raises it by one. -/
import Derived.Test.YtiabdeciadfiiaaManW
import Derived.Test.YtiabdeciadfiiaaBase
namespace Go.Proofs.Ytiabdeciadfiiaa.haystacklaw21
open Go.RowKit H O opk man

theorem and_small (x : Int) (m : Nat) (hm : m < 1000) : 0 ≤ bits .and .i64 x (m : Int) ∧ bits .and .i64 x (m : Int) ≤ m := by
  have h1 : ((BitVec.ofInt 64 x).toNat &&& (BitVec.ofInt 64 (m : Int)).toNat) ≤ m := by
    refine Nat.le_trans Nat.and_le_right ?_
    rw [BitVec.ofInt_natCast, BitVec.toNat_ofNat]
    exact Nat.mod_le _ _
  have e : bits .and .i64 x (m : Int) = IntKind.i64.wrap ((BitVec.ofInt 64 x &&& BitVec.ofInt 64 (m : Int)).toNat : Int) := rfl
  rw [e, BitVec.toNat_and, IntKind.wrap_i64]
  omega

theorem MSt.retag {T T2 : List Nat} {lo b : Nat} {g : Option Nat} {ver : Nat} {sh : List (List Int)} {done : Int} {w : World} (h : MSt T lo b g ver sh done w) (hT : ∀ x ∈ T2, x ∈ T ∨ w.heap.size ≤ x) : MSt T2 lo b g ver sh done w := by
  have hl := h.lt
  have ha := h.apart
  obtain ⟨A, c, h1, rfl, h3⟩ := h.blk
  refine ⟨⟨A, c, h1, rfl, h3.kp (Kp.refl [] w) (by simp) (by simp) (fun x hx => ?_)⟩, fun x hx => ?_⟩
  · rcases List.mem_cons.1 hx with rfl | hx
    · exact .inl (by simp)
    · rcases hT x hx with e | e
      · exact .inl (by simp [e])
      · exact .inr (.inr e)
  · rcases List.mem_cons.1 hx with rfl | hx
    · exact ha x (by simp)
    · rcases hT x hx with e | e
      · exact ha x (by simp [e])
      · intro e2
        have := hl.2 x e2
        omega
/-- Where the script stands: the map and what is wanted of it. -/
structure VJ (w : World) (wb : Nat) (ver k : Nat) (g : Option Nat) (r0 r1 q0 q1 : List Int) (wr : World) : Prop where
  kp : Kp [] w wr
  st : MSt [wb] w.heap.size w.heap.size g ver [r0, r1] ((2 + k : Nat) : Int) wr
  ok : MapOk ver [r0, r1]
  lo : w.heap.size < wb ∧ wb < wr.heap.size
  want : ∃ A0 c0 A1 c1, wr.heap[wb]? = some (.cells #[.slice A0 q0.length c0, .slice A1 q1.length c1] 22 (0, 0)) ∧ RdS (w.heap.size :: wb :: g.toList) wr A0 (iv .i64 q0) ∧ RdS (w.heap.size :: wb :: g.toList) wr A1 (iv .i64 q1)
  len : q0.length ≤ 7 ∧ q1.length ≤ 7
theorem VJ.keep {w wr w1 : World} {wb ver k : Nat} {g : Option Nat} {r0 r1 q0 q1 : List Int} (h : VJ w wb ver k g r0 r1 q0 q1 wr) (kk : Kp [] wr w1) : VJ w wb ver k g r0 r1 q0 q1 w1 := by
  obtain ⟨A0, c0, A1, c1, h1, h2, h3⟩ := h.want
  have := kk.size
  exact ⟨h.kp.trans kk (by simp), h.st.kp kk (by simp), h.ok, ⟨h.lo.1, by have := h.lo.2; omega⟩, ⟨A0, c0, A1, c1, kk.blk h1 (by simp), h2.kp kk (by simp), h3.kp kk (by simp)⟩, h.len⟩
/-- what Apply of a Move says of a map of two shards -/
def vNext (ver : Nat) (u s : Int) (r0 r1 l : List Int) : Nat × List Int × List Int × Int :=
  if 2 ≤ s then (ver, r0, r1, 7) else if u ≠ ver then (ver, r0, r1, 13) else if s = 0 then (ver + 1, l, r1, 0) else (ver + 1, r0, l, 0)
theorem vNext_do {ver : Nat} {u s : Int} {r0 r1 l : List Int} (h : mvOk u s l = true) : mDo ver [r0, r1] (moveB u s l) = ((vNext ver u s r0 r1 l).1, [(vNext ver u s r0 r1 l).2.1, (vNext ver u s r0 r1 l).2.2.1], (vNext ver u s r0 r1 l).2.2.2) := by
  rw [mDo_move h]
  simp only [mvOk, decide_eq_true_eq] at h
  have h2 : [r0, r1].length = 2 := rfl
  rw [h2]
  unfold vNext
  by_cases h7 : 2 ≤ s
  · rw [if_pos (by omega), if_pos h7]
  · rw [if_neg (by omega), if_neg h7]
    by_cases hu : u ≠ ver
    · rw [if_pos hu, if_pos hu]
    · rw [if_neg hu, if_neg hu]
      by_cases h0 : s = 0
      · rw [if_pos h0, h0]; rfl
      · have : s = 1 := by omega
        rw [if_neg h0, this]; rfl
theorem VJ.apply {w wr : World} {wb ver k : Nat} {g : Option Nat} {r0 r1 q0 q1 l : List Int} {u s : Int} (h : VJ w wb ver k g r0 r1 q0 q1 wr) (hm : mvOk u s l = true) (hk : k ≤ 1000) (hv : ver ≤ 100) (A : Option Addr) (n c : Nat) (hn : (moveB u s l).length = n) (hr : Rd wr A (iv .u8 (moveB u s l))) (hnil : A = none → c = 0) (hA : ∀ a, A = some a → a.block ≠ w.heap.size) :
    Calls Try.prog 12 #[.pointer (some ⟨w.heap.size, 0, none⟩), .int .i64 ((2 + k + 1 : Nat) : Int), .slice A n c] wr fun e w' => ∃ A2 c2 g2, e = .returned (.slice A2 3 c2) ∧ Rd w' A2 (iv .u8 [(vNext ver u s r0 r1 l).2.2.2, 1, ((vNext ver u s r0 r1 l).1 : Int)]) ∧ VJ w wb (vNext ver u s r0 r1 l).1 (k + 1) g2 (vNext ver u s r0 r1 l).2.1 (vNext ver u s r0 r1 l).2.2.1 q0 q1 w' ∧ AtN wr.heap.size g g2 ∧ Kp (w.heap.size :: g.toList) wr w' ∧ (∀ a, A2 = some a → wr.heap.size ≤ a.block) := by
  have hl := grp_len (show grp l = true from by simp only [mvOk, decide_eq_true_eq] at hm; exact hm.2.2)
  have hb : n ≤ 100000 := by
    have h1 := nodesB_len l
    have h2 := nums_len [2, u, s]
    simp only [List.length_cons, List.length_nil] at h2
    rw [← hn, moveB, List.length_append]
    omega
  have hw : Wf (moveB u s l) := by
    intro x hx
    rcases List.mem_append.1 hx with h | h
    · exact nums_u8 _ x h
    · exact nodesB_wf _ x h
  have hd := vNext_do (ver := ver) (r0 := r0) (r1 := r1) hm
  have hbd : (vNext ver u s r0 r1 l).1 ≤ ver + 1 ∧ 0 ≤ (vNext ver u s r0 r1 l).2.2.2 ∧ (vNext ver u s r0 r1 l).2.2.2 < 128 := by
    unfold vNext
    split
    · exact ⟨by simp, by simp, by simp⟩
    · split
      · exact ⟨by simp, by simp, by simp⟩
      · split
        · exact ⟨by simp, by simp, by simp⟩
        · exact ⟨by simp, by simp, by simp⟩
  have hap : mApply ver [r0, r1] ((2 + k : Nat) : Int) ((2 + k + 1 : Nat) : Int) (moveB u s l) = (((vNext ver u s r0 r1 l).1, [(vNext ver u s r0 r1 l).2.1, (vNext ver u s r0 r1 l).2.2.1], ((2 + k + 1 : Nat) : Int)), [(vNext ver u s r0 r1 l).2.2.2, 1, ((vNext ver u s r0 r1 l).1 : Int)]) := by
    rw [mApply, if_pos (by omega), hd]
    dsimp only
    rw [rep_small hbd.2.1 hbd.2.2 (by omega) (by omega)]
  have hok := mDo_ok (data := moveB u s l) hw h.ok
  rw [hd] at hok
  have hlo := h.lo
  refine (apply_any [wb] w.heap.size w.heap.size g ver [r0, r1] _ _ A n c (moveB u s l) wr h.st h.ok h.kp.size (by intro x hx; simp at hx; omega) ⟨by omega, by omega⟩ hn hA hr hnil hb hw).mono ?_
  rintro e w' ⟨v, g2, rfl, o, s2, a2, k2⟩
  rw [hap] at o s2
  obtain ⟨A2, c2, rfl, _, _, r2, _⟩ := own_rd o.1
  have hs2 := k2.size
  obtain ⟨_, _, _, hg, o9⟩ := h.st.blk
  obtain ⟨_, _, hv9, _, _, _, h9⟩ := o9.form
  cases hv9
  have hglo : ∀ x, g = some x → w.heap.size ≤ x := by
    intro x hx
    rw [hx] at hg
    obtain ⟨a, ha, hab⟩ := Option.map_eq_some_iff.1 hg
    have := (h9 a ha).1
    omega
  have hgw : ∀ x ∈ w.heap.size :: g.toList, x ≠ wb := by
    intro x hx
    rcases List.mem_cons.1 hx with rfl | hx
    · omega
    · intro e
      exact h.st.apart wb (by simp) (by rw [← e]; simpa using hx)
  obtain ⟨A0, c0, A1, c1, w1, w2, w3⟩ := h.want
  have hS : ∀ x ∈ w.heap.size :: wb :: g2.toList, x ∈ w.heap.size :: wb :: g.toList ∨ wr.heap.size ≤ x := by
    intro x hx
    rcases List.mem_cons.1 hx with rfl | hx
    · exact .inl (by simp)
    · rcases List.mem_cons.1 hx with rfl | hx
      · exact .inl (by simp)
      · rcases a2 x (by simpa using hx) with e | e
        · exact .inl (by simp [e])
        · exact .inr e
  refine ⟨A2, c2, g2, rfl, r2, ⟨h.kp.trans k2 ?_, ?_, hok, ⟨hlo.1, by omega⟩, ⟨A0, c0, A1, c1, k2.blk w1 (fun hm => hgw wb hm rfl), w2.kp2 k2 ?_ hS, w3.kp2 k2 ?_ hS⟩, h.len⟩, a2, k2, fun a ha => o.2 a.block (by rw [ha]; rfl)⟩
  · intro x hx
    rcases List.mem_cons.1 hx with rfl | hx
    · exact .inr (Nat.le_refl _)
    · exact .inr (hglo x (by simpa using hx))
  · have e : ((2 + (k + 1) : Nat) : Int) = ((2 + k + 1 : Nat) : Int) := by omega
    rw [e]
    exact s2
  · intro x hx
    rcases List.mem_cons.1 hx with rfl | hx
    · exact .inl (by simp)
    · exact .inl (by simp at hx; simp [hx])
  · intro x hx
    rcases List.mem_cons.1 hx with rfl | hx
    · exact .inl (by simp)
    · exact .inl (by simp at hx; simp [hx])
/-- what is wanted is written down -/
theorem VJ.set {w wr : World} {wb ver k j : Nat} {g : Option Nat} {r0 r1 q0 q1 l : List Int} {A : Option Addr} {n c : Nat} (h : VJ w wb ver k g r0 r1 q0 q1 wr) (hj : j < 2) (hn : l.length = n) (hl : n ≤ 7) (hr : RdS (w.heap.size :: wb :: g.toList) wr A (iv .i64 l)) :
    (∃ x, wr.cell? ⟨wb, j, none⟩ = some x) ∧ wr.frozen? ⟨wb, j, none⟩ = false ∧ VJ w wb ver k g r0 r1 (if j = 0 then l else q0) (if j = 0 then q1 else l) (wr.setCell ⟨wb, j, none⟩ (.slice A n c)) := by
  subst hn
  obtain ⟨A0, c0, A1, c1, w1, w2, w3⟩ := h.want
  have kk : Kp [wb] wr (wr.setCell ⟨wb, j, none⟩ (.slice A l.length c)) := (Kp.refl _ wr).setCell (.inl (by simp)) _
  have hs := heap_setCell_same wr wb j _ _ (.slice A l.length c) w1
  have hT : ∀ x ∈ [wb], x ∈ w.heap.size :: wb :: g.toList ∨ wr.heap.size ≤ x := by intro x hx; simp at hx; exact .inl (by simp [hx])
  have hq : ∀ x ∈ w.heap.size :: wb :: g.toList, x ∈ w.heap.size :: wb :: g.toList ∨ wr.heap.size ≤ x := fun x hx => .inl hx
  have hst : MSt [wb] w.heap.size w.heap.size g ver [r0, r1] ((2 + k : Nat) : Int) (wr.setCell ⟨wb, j, none⟩ (.slice A l.length c)) := h.st.kp kk (by intro x hx; simp at hx; left; have := h.lo; exact ⟨by simp [hx], by omega⟩)
  have hkp : Kp [] w (wr.setCell ⟨wb, j, none⟩ (.slice A l.length c)) := h.kp.trans kk (by intro x hx; simp at hx; right; have := h.lo; omega)
  match j, hj with
  | 0, _ => exact ⟨⟨_, blk_cell w1 0 rfl⟩, blk_free w1 0, hkp, hst, h.ok, ⟨h.lo.1, by simpa using h.lo.2⟩, ⟨A, c, A1, c1, hs, hr.kp2 kk hT hq, w3.kp2 kk hT hq⟩, ⟨hl, h.len.2⟩⟩
  | 1, _ => exact ⟨⟨_, blk_cell w1 1 rfl⟩, blk_free w1 1, hkp, hst, h.ok, ⟨h.lo.1, by simpa using h.lo.2⟩, ⟨A0, c0, A, c, hs, w2.kp2 kk hT hq, hr.kp2 kk hT hq⟩, ⟨h.len.1, hl⟩⟩

set_option maxHeartbeats 8000000 in
set_option maxRecDepth 100000 in
theorem mver_law (w : World) (A : Option Addr) (n c : Nat) (xs : List Int) (hn : xs.length = n) (hr : Rd w A (iv .i64 xs)) (hb : n ≤ 140737488351232) :
    Calls Try.prog 3 #[.slice A n c] w fun e w' => e = .returned (.bool true) ∧ Below w.heap.size w w' := by
  have HN := As.mk hn
  have HR := As.mk hr
  clear hn hr
  by_cases h60 : 60 < n
  · go_enter Try.func3, Try.ntmps3
    go_wp2_with (go_at_call 8; refine (known_any _).mono ?_; rintro e w9 ⟨rfl, k9⟩; have HK9 := As.mk k9; clear k9)
    go_ret
    exact ⟨rfl, HK9.out.below⟩
  · obtain ⟨F, hF⟩ : ∃ F, F = foundB [[0], [1, 2]] := ⟨_, rfl⟩
    obtain ⟨nF, hnF⟩ : ∃ n, F.length = n := ⟨_, rfl⟩
    have gF : gOk [[0], [1, 2]] = true := by decide
    have hF9 : nF ≤ 100 := by have h1 := gridB_len [[0], [1, 2]]; have h2 := num_len 1; have h3 : gSize [[0], [1, 2]] = 5 := rfl; rw [← hnF, hF, foundB, List.length_append]; omega
    have wF : Wf F := by rw [hF]; intro x hx; rcases List.mem_append.1 hx with h | h; exact num_u8 _ x h; exact gridB_wf _ x h
    have aF : mApply 0 [] 0 1 F = ((1, [[0], [1, 2]], 1), [0, 1, 1]) := by
      rw [mApply, if_pos (by decide), hF, mDo_found gF, if_neg (by decide)]
      rw [show repBytes 0 [((1 : Nat) : Int)] = [0, 1, 1] from rep_small (by decide) (by decide) (by decide) (by decide)]
    have aG : mApply 1 [[0], [1, 2]] 1 2 F = ((1, [[0], [1, 2]], 2), [8, 1, 1]) := by
      rw [mApply, if_pos (by decide), hF, mDo_found gF, if_pos (by decide)]
      rw [show repBytes 8 [((1 : Nat) : Int)] = [8, 1, 1] from rep_small (by decide) (by decide) (by decide) (by decide)]
    have HFO : As (∀ wX, Calls Try.prog 10 #[.slice (some ⟨wX.heap.size + 1 + 1, 0, none⟩) 2 2] (((wX.alloc (.cells #[.int .i64 0] 3)).alloc (.cells #[.int .i64 1, .int .i64 2] 3)).alloc (.cells #[.slice (some ⟨wX.heap.size, 0, none⟩) 1 1, .slice (some ⟨wX.heap.size + 1, 0, none⟩) 2 2] 22)) fun e w' => ∃ A1 c1, e = .returned (.tuple #[.slice A1 nF c1, .int .i64 0]) ∧ Rd w' A1 (iv .u8 F) ∧ (A1 = none → c1 = 0) ∧ (∀ a, A1 = some a → wX.heap.size ≤ a.block ∧ a.block < w'.heap.size) ∧ Kp [] wX w') := ⟨fun wX => by
      refine (found_any (some ⟨wX.heap.size + 1 + 1, 0, none⟩) 2 2 [[0], [1, 2]] _ rfl (ri_two wX [0] [1, 2] 1 2 rfl rfl _ _) (by decide)).mono ?_
      rintro e w' ⟨v, rfl, o, k⟩
      rw [foundR, if_pos gF, ← hF] at o
      rw [okZ, if_pos gF]
      have kk := (((Kp.refl [] wX).alloc (.cells #[.int .i64 0] 3)).alloc (.cells #[.int .i64 1, .int .i64 2] 3)).alloc (.cells #[.slice (some ⟨wX.heap.size, 0, none⟩) 1 1, .slice (some ⟨wX.heap.size + 1, 0, none⟩) 2 2] 22)
      have o' := o.lower kk.size
      obtain ⟨A1, c1, rfl, _, _, r1, n1⟩ := own_rd o.1
      rw [hnF] at o' ⊢
      exact ⟨A1, c1, rfl, r1, n1, fun a ha => ⟨o'.2 a.block (by rw [ha]; rfl), own_lt o.1 a.block (by rw [ha]; rfl)⟩, kk.trans k (by simp)⟩⟩
    have HS0 := As.mk (MSt.new (T := []) (lo := w.heap.size) w)
    have HA1 : As (∀ wX A1 c1, MSt [] w.heap.size w.heap.size none 0 [] 0 wX → Kp [] w wX → Rd wX A1 (iv .u8 F) → (A1 = none → c1 = 0) → (∀ a, A1 = some a → w.heap.size < a.block ∧ a.block < wX.heap.size) → Calls Try.prog 12 #[.pointer (some ⟨w.heap.size, 0, none⟩), .int .i64 1, .slice A1 nF c1] wX fun e w' => ∃ A2 c2 g2, e = .returned (.slice A2 3 c2) ∧ Rd w' A2 (iv .u8 [0, 1, 1]) ∧ MSt [] w.heap.size w.heap.size g2 1 [[0], [1, 2]] 1 w' ∧ Rd w' A1 (iv .u8 F) ∧ (∀ a, A1 = some a → g2 ≠ some a.block) ∧ Kp [] w w') := ⟨fun wX A1 c1 s k r n ne => by
      refine (apply_any [] w.heap.size w.heap.size none 0 [] 0 1 A1 nF c1 F wX s ⟨by decide, by decide, by simp, by simp⟩ k.size (by simp) (by decide) hnF (fun a ha => by have := ne a ha; omega) r n (by omega) wF).mono ?_
      rintro e w' ⟨v, g2, rfl, o, s2, a2, k2⟩
      rw [aF] at o s2
      obtain ⟨A2, c2, rfl, _, _, r2, _⟩ := own_rd o.1
      refine ⟨A2, c2, g2, rfl, r2, s2, k2.rd r (fun a ha => by have := ne a ha; simp; omega), fun a ha e => ?_, k.trans k2 (by intro x hx; simp at hx; right; omega)⟩
      rcases a2 _ e with h | h
      · cases h
      · have := ne a ha; omega⟩
    have HKG : As (∀ {wX : World} {g : Option Nat} {ver : Nat} {sh : List (List Int)} {d : Int}, MSt [] w.heap.size w.heap.size g ver sh d wX → ∀ x, g = some x → w.heap.size ≤ x) := ⟨fun {wX g ver sh d} s x hx => by
      obtain ⟨_, _, _, hg, o9⟩ := s.blk
      obtain ⟨_, _, hv, _, _, _, h9⟩ := o9.form
      cases hv
      rw [hx] at hg
      obtain ⟨a, ha, hab⟩ := Option.map_eq_some_iff.1 hg
      have := (h9 a ha).1
      omega⟩
    have HA2 : As (∀ wX A1 c1 g, MSt [] w.heap.size w.heap.size g 1 [[0], [1, 2]] 1 wX → Kp [] w wX → Rd wX A1 (iv .u8 F) → (A1 = none → c1 = 0) → (∀ a, A1 = some a → a.block ≠ w.heap.size) → Calls Try.prog 12 #[.pointer (some ⟨w.heap.size, 0, none⟩), .int .i64 2, .slice A1 nF c1] wX fun e w' => ∃ A2 c2 g2, e = .returned (.slice A2 3 c2) ∧ Rd w' A2 (iv .u8 [8, 1, 1]) ∧ MSt [] w.heap.size w.heap.size g2 1 [[0], [1, 2]] 2 w' ∧ Kp [] w w') := ⟨fun wX A1 c1 g s k r n ne => by
      refine (apply_any [] w.heap.size w.heap.size g 1 [[0], [1, 2]] 1 2 A1 nF c1 F wX s ⟨by decide, by decide, by decide, by decide⟩ k.size (by simp) (by decide) hnF ne r n (by omega) wF).mono ?_
      rintro e w' ⟨v, g2, rfl, o, s2, _, k2⟩
      rw [aG] at o s2
      obtain ⟨A2, c2, rfl, _, _, r2, _⟩ := own_rd o.1
      refine ⟨A2, c2, g2, rfl, r2, s2, k.trans k2 (fun x hx => ?_)⟩
      rcases List.mem_cons.1 hx with rfl | hx
      · exact .inr (Nat.le_refl _)
      · exact .inr (HKG.out s x (by simpa using hx))⟩
    have HSM : As (∀ wX A1 c1 (x y z : Int), Rd wX A1 (iv .u8 [x, y, z]) → Calls Try.prog 11 #[.slice A1 3 c1, .slice (some ⟨wX.heap.size, 0, none⟩) 3 3] (wX.alloc (.cells #[.int .u8 x, .int .u8 y, .int .u8 z] 5)) fun e w' => e = .returned (.bool true) ∧ Kp [] wX w') := ⟨fun wX A1 c1 x y z r => by
      have kk := (Kp.refl [] wX).alloc (.cells #[.int .u8 x, .int .u8 y, .int .u8 z] 5)
      refine (same_any A1 (some ⟨wX.heap.size, 0, none⟩) 3 c1 3 3 [x, y, z] [x, y, z] _ rfl rfl (kk.rd_new r (by simp)) (rd_new wX [.int .u8 x, .int .u8 y, .int .u8 z] _) (by simp)).mono ?_
      rintro e w' ⟨rfl, q, rfl⟩
      exact ⟨by rw [decide_eq_true rfl], kk.drewN q⟩⟩
    clear hF hnF gF hF9 wF aF aG
    go_enter Try.func3, Try.ntmps3
    go_upto_region 9 with (first
      | (go_at_call 9; refine (new_any _).mono ?_; rintro e w1 ⟨rfl, hw1⟩; have HS1 : As (MSt [] w.heap.size w.heap.size none 0 [] 0 w1) := ⟨by rw [hw1]; exact HS0.out⟩; have HK1 : As (Kp [] w w1) := ⟨by rw [hw1]; exact (Kp.refl [] w).alloc _⟩; have HF1 := As.mk (HFO.out w1); have HLT1 : As (w.heap.size < w1.heap.size) := ⟨by rw [hw1]; simp⟩; clear hw1)
      | (go_at_call 10; refine HF1.out.mono ?_; rintro e w2 ⟨A2, c2, rfl, r2, n2, b2, k2⟩; have HN2 := As.mk n2; have HB2 : As (∀ a, A2 = some a → a.block ≠ w.heap.size) := ⟨fun a ha => by have h7 := (b2 a ha).1; have h8 := HLT1.out; omega⟩; have HA3 := As.mk (HA1.out w2 A2 c2 (HS1.out.kp k2 (by simp)) (HK1.out.trans k2 (by simp)) r2 n2 (fun a ha => by have h7 := b2 a ha; have h8 := HLT1.out; omega)); clear r2 n2 b2 k2 HF1)
      | (go_at_call 12; refine HA3.out.mono ?_; rintro e w4 ⟨A4, c4, g4, rfl, r4, s4, rr4, _, kk4⟩; have HS4 := As.mk s4; have HK4 := As.mk kk4; have HR4 := As.mk rr4; have HSM4 := As.mk (HSM.out w4 A4 c4 0 1 1 r4); clear r4 s4 rr4 kk4 HA3)
      | (go_at_call 11; refine HSM4.out.mono ?_; rintro e w5 ⟨rfl, k5⟩; have HA5 := As.mk (HA2.out w5 A2 c2 g4 (HS4.out.kp k5 (by simp)) (HK4.out.trans k5 (by simp)) (k5.rd HR4.out (fun _ _ => by simp)) HN2.out HB2.out); clear k5 HSM4)
      | (go_at_call 12; refine HA5.out.mono ?_; rintro e w6 ⟨A6, c6, g6, rfl, r6, s6, kk6⟩; have HS6 := As.mk s6; have HK6 := As.mk kk6; have HSM6 := As.mk (HSM.out w6 A6 c6 8 1 1 r6); clear r6 s6 kk6 HA5)
      | (go_at_call 11; refine HSM6.out.mono ?_; rintro e w7 ⟨rfl, k7⟩; have HS7 := As.mk (HS6.out.kp k7 (by simp)); have HK7 : As (Kp [] w w7) := ⟨HK6.out.trans k7 (by simp)⟩; clear k7 HSM6))
    obtain ⟨W, hW⟩ : ∃ W, W = ((w7.alloc (.cells #[.int .i64 0] 3)).alloc (.cells #[.int .i64 1, .int .i64 2] 3)).alloc (.cells #[.slice (some ⟨w7.heap.size, 0, none⟩) 1 1, .slice (some ⟨w7.heap.size + 1, 0, none⟩) 2 2] 22) := ⟨_, rfl⟩
    have HJ0 : As (VJ w (w7.heap.size + 1 + 1) 1 0 g6 [0] [1, 2] [0] [1, 2] W) := ⟨by
      have kW : Kp [] w7 W := by rw [hW]; exact (((Kp.refl [] w7).alloc _).alloc _).alloc _
      have hlt := HS7.out.lt
      have hri : Ri [] W (some ⟨w7.heap.size + 1 + 1, 0, none⟩) [[0], [1, 2]] := by rw [hW]; exact ri_two w7 [0] [1, 2] 1 2 rfl rfl 3 22
      have b1 : W.heap[w7.heap.size + 1 + 1]? = some (.cells #[.slice (some ⟨w7.heap.size, 0, none⟩) 1 1, .slice (some ⟨w7.heap.size + 1, 0, none⟩) 2 2] 22 (0, 0)) := by
        rw [hW]
        have := heap_alloc_new ((w7.alloc (.cells #[.int .i64 0] 3)).alloc (.cells #[.int .i64 1, .int .i64 2] 3)) (.cells #[.slice (some ⟨w7.heap.size, 0, none⟩) 1 1, .slice (some ⟨w7.heap.size + 1, 0, none⟩) 2 2] 22)
        simpa using this
      have hs : W.heap.size = w7.heap.size + 1 + 1 + 1 := by rw [hW]; simp
      have hS : ∀ x ∈ w.heap.size :: (w7.heap.size + 1 + 1) :: g6.toList, x ≠ w7.heap.size ∧ x ≠ w7.heap.size + 1 := by
        intro x hx
        rcases List.mem_cons.1 hx with rfl | hx
        · omega
        · rcases List.mem_cons.1 hx with rfl | hx
          · omega
          · have := hlt.2 x (by simpa using hx); omega
      have hrow : ∀ (X : Nat) (vs : List Value), (X = w7.heap.size ∨ X = w7.heap.size + 1) → Rd W (some ⟨X, 0, none⟩) vs → RdS (w.heap.size :: (w7.heap.size + 1 + 1) :: g6.toList) W (some ⟨X, 0, none⟩) vs := fun X vs hX hr j v hv => by
        obtain ⟨a, ha, hc⟩ := hr j v hv
        cases ha
        exact ⟨_, rfl, fun hm => by have h9 := hS X hm; omega, hc⟩
      have r0 : Rd W (some ⟨w7.heap.size, 0, none⟩) (iv .i64 [0]) := by
        obtain ⟨a, Aj, cj, ha, _, hc, _, _, hr⟩ := hri 0 (by decide)
        cases ha
        rw [add_zero'] at hc
        rw [blk_cell b1 0 rfl] at hc
        cases hc
        exact hr.rd
      have r1 : Rd W (some ⟨w7.heap.size + 1, 0, none⟩) (iv .i64 [1, 2]) := by
        obtain ⟨a, Aj, cj, ha, _, hc, _, _, hr⟩ := hri 1 (by decide)
        cases ha
        rw [Addr.add_lit] at hc
        rw [show (⟨w7.heap.size + 1 + 1, 0 + 1, none⟩ : Addr) = ⟨w7.heap.size + 1 + 1, 1, none⟩ from rfl, blk_cell b1 1 rfl] at hc
        cases hc
        exact hr.rd
      exact ⟨HK7.out.trans kW (by simp), (MSt.retag HS7.out (by intro x hx; simp at hx; right; omega)).kp kW (by simp), ⟨by decide, by decide, by decide, by decide⟩, ⟨by omega, by omega⟩, ⟨_, _, _, _, b1, hrow _ _ (.inl rfl) r0, hrow _ _ (.inr rfl) r1⟩, ⟨by decide, by decide⟩⟩⟩
    have HLW : As (w.heap.size < w7.heap.size + 1 + 1) := ⟨HJ0.out.lo.1⟩
    rw [← hW]
    clear hW
    go_wp2
    go_loopw [6, 7, 9] (fun v i j wr => ∃ (ver k : Nat) (g : Option Nat) (r0 r1 : List Int), v = .int .i64 (ver : Int) ∧ i = .int .i64 ((2 + k : Nat) : Int) ∧ j = .int .i64 (k : Int) ∧ k ≤ n ∧ 1 ≤ ver ∧ ver ≤ 1 + k ∧ As (VJ w (w7.heap.size + 1 + 1) ver k g r0 r1 r0 r1 wr)) (fun _ _ j _ => n - (intOf j).toNat)
    case atStart => exact ⟨1, 0, g6, [0], [1, 2], rfl, rfl, rfl, by omega, by omega, by omega, HJ0⟩
    case round =>
      obtain ⟨ver, k, g, r0, r1, rfl, rfl, rfl, hk, hv1, hv2, HJ⟩ := hrel
      by_cases hlt : k < n
      · have hlt' : k < xs.length := by rw [HN.out]; exact hlt
        obtain ⟨b0, o0, rfl, d0⟩ := man.int_at HR.out k hlt'
        obtain ⟨y, hy⟩ : ∃ y, y = xs[k] := ⟨_, rfl⟩
        rw [← hy] at d0
        have d1 := HJ.out.kp.cell d0 (by simp)
        clear d0 hy hlt'
        obtain ⟨a, hA⟩ : ∃ a, bits .and .i64 y 3 = a := ⟨_, rfl⟩
        obtain ⟨s, hS⟩ : ∃ a, bits .and .i64 (y / 4) 3 = a := ⟨_, rfl⟩
        obtain ⟨p, hP⟩ : ∃ a, bits .and .i64 (y / 16) 1 = a := ⟨_, rfl⟩
        obtain ⟨q, hQ⟩ : ∃ a, bits .and .i64 (y / 32) 1 = a := ⟨_, rfl⟩
        have ba := and_small y 3 (by decide)
        have bs := and_small (y / 4) 3 (by decide)
        have bp := and_small (y / 16) 1 (by decide)
        have bq := and_small (y / 32) 1 (by decide)
        have ba : 0 ≤ a ∧ a ≤ 3 := by rw [← hA]; exact ba
        have bs : 0 ≤ s ∧ s ≤ 3 := by rw [← hS]; exact bs
        have bp : 0 ≤ p ∧ p ≤ 1 := by rw [← hP]; exact bp
        have bq : 0 ≤ q ∧ q ≤ 1 := by rw [← hQ]; exact bq
        obtain ⟨ba0, ba1⟩ := ba
        obtain ⟨bs0, bs1⟩ := bs
        obtain ⟨bp0, bp1⟩ := bp
        obtain ⟨bq0, bq1⟩ := bq
        obtain ⟨u, hu⟩ : ∃ u, (if (ver : Int) + a - 1 > 1 then (ver : Int) + a - 1 else 1) = u := ⟨_, rfl⟩
        have hmax : ∀ w, (Builtin.max_ #[3, 3] 3 #[.int .i64 1, .int .i64 ((ver : Int) + a - 1)]).run Try.prog w = .ok (.int .i64 u) w := fun w => by rw [writer.max_two, hu]
        have hu1 : 1 ≤ u ∧ u ≤ ver + 3 := by rw [← hu]; split <;> omega
        obtain ⟨hu0, hu9⟩ := hu1
        have gl : grp [p, 2 + q] = true := by
          rw [grp_iff]
          refine ⟨fun i hi => ?_, by simp, by simp⟩
          have : i = 0 ∨ i = 1 := by simp at hi; omega
          rcases this with rfl | rfl
          · unfold grpAt; simp; omega
          · unfold grpAt; simp; omega
        have hmv : mvOk u s [p, 2 + q] = true := by rw [mvOk, decide_eq_true_eq]; exact ⟨⟨by omega, by omega⟩, ⟨by omega, by omega⟩, gl⟩
        obtain ⟨nM, hnM⟩ : ∃ m, (moveB u s [p, 2 + q]).length = m := ⟨_, rfl⟩
        have HMV := As.mk hmv
        have HNM := As.mk hnM
        have HU := As.mk hu
        have HMO : As (∀ wX nb, Rd wX (some ⟨nb, 0, none⟩) (iv .i64 [p, 2 + q]) → Calls Try.prog 13 #[.int .i64 u, .int .i64 s, .slice (some ⟨nb, 0, none⟩) 2 2] wX fun e w' => ∃ A1 c1, e = .returned (.tuple #[.slice A1 nM c1, .int .i64 0]) ∧ Rd w' A1 (iv .u8 (moveB u s [p, 2 + q])) ∧ (A1 = none → c1 = 0) ∧ (∀ a, A1 = some a → wX.heap.size ≤ a.block) ∧ Kp [] wX w') := ⟨fun wX nb r => by
          refine (move_any u s (some ⟨nb, 0, none⟩) 2 2 [p, 2 + q] _ rfl r (by decide)).mono ?_
          rintro e w' ⟨v, rfl, o, k⟩
          rw [moveR, if_pos hmv] at o
          rw [okZ, if_pos hmv]
          obtain ⟨A1, c1, hv1, _, _, r1, n1⟩ := own_rd o.1
          rw [hnM] at hv1
          subst hv1
          exact ⟨A1, c1, rfl, r1, n1, fun a ha => o.2 a.block (by rw [ha]; rfl), k⟩⟩
        have hnew := World.new_ne wr ⟨b0, o0 + k, none⟩ d1
        have i0 : (0 : Int) ≤ (k : Int) := by omega
        have i1 : (k : Int) < (n : Int) := by omega
        have hw2 : IntKind.i64.wrap (2 + q) = 2 + q := by rw [IntKind.wrap_i64]; omega
        have HLIT : As (Rd (wr.alloc (.cells #[.int .i64 p, .int .i64 (2 + q)] 3)) (some ⟨wr.heap.size, 0, none⟩) (iv .i64 [p, 2 + q])) := ⟨rd_new wr [.int .i64 p, .int .i64 (2 + q)] _⟩
        have HKL : As (Kp [] wr (wr.alloc (.cells #[.int .i64 p, .int .i64 (2 + q)] 3))) := ⟨(Kp.refl [] wr).alloc _⟩
        obtain ⟨e9, he9⟩ : ∃ e, (vNext ver u s r0 r1 [p, 2 + q]).2.2.2 = e := ⟨_, rfl⟩
        obtain ⟨v9, hv9⟩ : ∃ e, (vNext ver u s r0 r1 [p, 2 + q]).1 = e := ⟨_, rfl⟩
        have HE9 := As.mk he9
        have HV9 := As.mk hv9
        have HAP : As (∀ wX A1 c1, VJ w (w7.heap.size + 1 + 1) ver k g r0 r1 r0 r1 wX → wr.heap.size < wX.heap.size → Rd wX A1 (iv .u8 (moveB u s [p, 2 + q])) → (A1 = none → c1 = 0) → (∀ a, A1 = some a → wr.heap.size ≤ a.block) → RdS (w.heap.size :: (w7.heap.size + 1 + 1) :: g.toList) wX (some ⟨wr.heap.size, 0, none⟩) (iv .i64 [p, 2 + q]) → Calls Try.prog 12 #[.pointer (some ⟨w.heap.size, 0, none⟩), .int .i64 ((2 + k : Nat) + 1 : Int), .slice A1 nM c1] wX fun e w' => ∃ A2 c2 g2, e = .returned (.slice A2 3 c2) ∧ Rd w' A2 (iv .u8 [e9, 1, (v9 : Int)]) ∧ VJ w (w7.heap.size + 1 + 1) v9 (k + 1) g2 (vNext ver u s r0 r1 [p, 2 + q]).2.1 (vNext ver u s r0 r1 [p, 2 + q]).2.2.1 r0 r1 w' ∧ RdS (w.heap.size :: (w7.heap.size + 1 + 1) :: g2.toList) w' (some ⟨wr.heap.size, 0, none⟩) (iv .i64 [p, 2 + q]) ∧ (∀ a, A2 = some a → a.block ≠ w7.heap.size + 1 + 1)) := ⟨by
          intro wX A1 c1 hj hlt r n hA hlit
          have h8 := hj.apply HMV.out (by omega) (by omega) A1 nM c1 HNM.out r n (fun a ha => by have h7 := hA a ha; have h6 := HJ.out.kp.size; have h5 := HJ.out.lo; omega)
          have e : (((2 + k : Nat) : Int) + 1) = ((2 + k + 1 : Nat) : Int) := by omega
          rw [e]
          refine h8.mono ?_
          rintro e w' ⟨A2, c2, g2, rfl, r2, j2, a2, k2, b2⟩
          rw [he9, hv9] at r2
          rw [hv9] at j2
          refine ⟨A2, c2, g2, rfl, r2, j2, hlit.kp2 k2 (fun x hx => ?_) (fun x hx => ?_), fun a ha => by have h7 := b2 a ha; have h6 := hj.lo; omega⟩
          · rcases List.mem_cons.1 hx with rfl | hx
            · exact .inl (by simp)
            · exact .inl (by simp at hx; simp [hx])
          · rcases List.mem_cons.1 hx with rfl | hx
            · exact .inl (by simp)
            · rcases List.mem_cons.1 hx with rfl | hx
              · exact .inl (by simp)
              · rcases a2 x (by simpa using hx) with e | e
                · exact .inl (by simp [e])
                · exact .inr e⟩
        have HLS : As (∀ wX, Kp [] (wr.alloc (.cells #[.int .i64 p, .int .i64 (2 + q)] 3)) wX → RdS (w.heap.size :: (w7.heap.size + 1 + 1) :: g.toList) wX (some ⟨wr.heap.size, 0, none⟩) (iv .i64 [p, 2 + q])) := ⟨fun wX kX => by
          refine (RdS.lit (S := w.heap.size :: (w7.heap.size + 1 + 1) :: g.toList) wr [.int .i64 p, .int .i64 (2 + q)] 3 (fun x hx => ?_)).kp kX (by simp)
          have h5 := HJ.out.lo
          have h6 := HJ.out.st.lt
          rcases List.mem_cons.1 hx with rfl | hx
          · omega
          · rcases List.mem_cons.1 hx with rfl | hx
            · omega
            · exact h6.2 x (by simpa using hx)⟩
        have HCASE : As ((2 ≤ s ∧ vNext ver u s r0 r1 [p, 2 + q] = (ver, r0, r1, 7)) ∨ (s < 2 ∧ ¬ u = ver ∧ vNext ver u s r0 r1 [p, 2 + q] = (ver, r0, r1, 13)) ∨ (s = 0 ∧ u = ver ∧ vNext ver u s r0 r1 [p, 2 + q] = (ver + 1, [p, 2 + q], r1, 0)) ∨ (s = 1 ∧ u = ver ∧ vNext ver u s r0 r1 [p, 2 + q] = (ver + 1, r0, [p, 2 + q], 0))) := ⟨by
          unfold vNext
          by_cases h7 : 2 ≤ s
          · exact .inl ⟨h7, by rw [if_pos h7]⟩
          · by_cases hu : u = ver
            · by_cases h0 : s = 0
              · exact .inr (.inr (.inl ⟨h0, hu, by rw [if_neg h7, if_neg (by simp [hu]), if_pos h0]⟩))
              · exact .inr (.inr (.inr ⟨by omega, hu, by rw [if_neg h7, if_neg (by simp [hu]), if_neg h0]⟩))
            · exact .inr (.inl ⟨by omega, hu, by rw [if_neg h7, if_pos hu]⟩)⟩
        clear gl hmv hnM hu he9 hv9
        go_upto_region 14 with fail
        go_region_held3 (fun w' => w'.cell? ⟨b0, o0 + k, none⟩ = some (.int .i64 y)) (go_keep) (fail)
        go_upto_region 20 with (first
          | (go_at_call 13; refine (HMO.out _ wr.heap.size (by first | exact HLIT.out | exact ((Kp.refl [] _).drew).rd HLIT.out (fun _ _ => by simp) | exact ((Kp.refl [] _).drewN _).rd HLIT.out (fun _ _ => by simp))).mono ?_; rintro e w8 ⟨A8, c8, rfl, r8, n8, b8, k8⟩; have kk8 : Kp [] (wr.alloc (.cells #[.int .i64 p, .int .i64 (2 + q)] 3)) w8 := (by first | exact k8 | exact ((Kp.refl [] _).drew).trans k8 (by simp) | exact ((Kp.refl [] _).drewN _).trans k8 (by simp)); have HJ8 := As.mk (HJ.out.keep (HKL.out.trans kk8 (by simp))); have hs8 := kk8.size; rw [World.size_alloc] at hs8; have HA8 := As.mk (HAP.out w8 A8 c8 HJ8.out (by omega) r8 n8 (fun a ha => by have h7 := b8 a ha; simp at h7; omega) (HLS.out w8 kk8)); clear r8 n8 b8 k8 kk8 hs8)
          | (go_at_call 12; refine HA8.out.mono ?_; rintro e w9 ⟨A9, c9, g9, rfl, r9, j9, l9, b9⟩; have HR9 := As.mk r9; have HJ9 := As.mk j9; have HL9 := As.mk l9; have HB9 := As.mk b9; clear r9 j9 l9 b9 HA8))
        rw [← HE9.out, ← HV9.out] at HR9
        rw [← HV9.out] at HJ9
        rcases HCASE.out with ⟨h7, hE⟩ | ⟨h7, hu, hE⟩ | ⟨h7, hu, hE⟩ | ⟨h7, hu, hE⟩
        · rw [hE] at HR9 HJ9
          dsimp only at HR9 HJ9
          have HSX := As.mk (HSM.out w9 A9 c9 7 1 (ver : Int) HR9.out)
          clear hE hmax hA hS hP hQ hw2
          go_wp2_with (first
            | (go_at_call 11; refine HSX.out.mono ?_; rintro e w10 ⟨rfl, k10⟩; have HJ10 := As.mk (HJ9.out.keep k10); clear k10 HSX))
          go_roundw
          case rel => exact ⟨ver, k + 1, g9, r0, r1, rfl, by go_num, by go_num, by omega, by omega, by omega, HJ10⟩
          case measure => simp [intOf]; omega
        · rw [hE] at HR9 HJ9
          dsimp only at HR9 HJ9
          have HSX := As.mk (HSM.out w9 A9 c9 13 1 (ver : Int) HR9.out)
          have bu : (u != (ver : Int)) = true := by simpa using hu
          clear hE hA hS hP hQ hw2 hu
          go_wp2_with (first
            | (go_at_call 11; refine HSX.out.mono ?_; rintro e w10 ⟨rfl, k10⟩; have HJ10 := As.mk (HJ9.out.keep k10); clear k10 HSX))
          go_roundw
          case rel => exact ⟨ver, k + 1, g9, r0, r1, rfl, by go_num, by go_num, by omega, by omega, by omega, HJ10⟩
          case measure => simp [intOf]; omega
        · subst h7
          rw [hE] at HR9 HJ9
          dsimp only at HR9 HJ9
          have bu : (u != (ver : Int)) = false := by simpa using hu
          obtain ⟨⟨x1, z1⟩, z2, hj⟩ := HJ9.out.set (j := 0) (n := 2) (c := 2) (by decide) (by rfl : [p, 2 + q].length = 2) (by decide) HL9.out
          have HJS := As.mk hj
          obtain ⟨wS, hwS⟩ : ∃ wS, wS = w9.setCell ⟨w7.heap.size + 1 + 1, 0, none⟩ (.slice (some ⟨wr.heap.size, 0, none⟩) 2 2) := ⟨_, rfl⟩
          have HSX := As.mk (HSM.out wS A9 c9 0 1 (((ver + 1 : Nat) : Int)) (by
            have kS : Kp [w7.heap.size + 1 + 1] w9 wS := by rw [hwS]; exact (Kp.refl _ w9).setCell (.inl (by simp)) _
            exact kS.rd HR9.out (fun a ha => by have h9 := HB9.out a ha; simp; omega)))
          rw [show (((ver + 1 : Nat) : Int)) = (ver : Int) + 1 from by omega, hwS] at HSX
          rw [World.size_setCell] at HSX
          clear hE hA hS hP hQ hw2 hu hj hwS
          go_wp2_with (first
            | (go_at_call 11; refine HSX.out.mono ?_; rintro e w10 ⟨rfl, k10⟩; have HJ10 := As.mk (HJS.out.keep k10); clear k10 HSX))
          go_roundw
          case rel => exact ⟨ver + 1, k + 1, g9, _, _, by go_num, by go_num, by go_num, by omega, by omega, by omega, HJ10⟩
          case measure => simp [intOf]; omega
        · subst h7
          rw [hE] at HR9 HJ9
          dsimp only at HR9 HJ9
          have bu : (u != (ver : Int)) = false := by simpa using hu
          obtain ⟨⟨x1, z1⟩, z2, hj⟩ := HJ9.out.set (j := 1) (n := 2) (c := 2) (by decide) (by rfl : [p, 2 + q].length = 2) (by decide) HL9.out
          have HJS := As.mk hj
          obtain ⟨wS, hwS⟩ : ∃ wS, wS = w9.setCell ⟨w7.heap.size + 1 + 1, 1, none⟩ (.slice (some ⟨wr.heap.size, 0, none⟩) 2 2) := ⟨_, rfl⟩
          have HSX := As.mk (HSM.out wS A9 c9 0 1 (((ver + 1 : Nat) : Int)) (by
            have kS : Kp [w7.heap.size + 1 + 1] w9 wS := by rw [hwS]; exact (Kp.refl _ w9).setCell (.inl (by simp)) _
            exact kS.rd HR9.out (fun a ha => by have h9 := HB9.out a ha; simp; omega)))
          rw [show (((ver + 1 : Nat) : Int)) = (ver : Int) + 1 from by omega, hwS] at HSX
          rw [World.size_setCell] at HSX
          clear hE hA hS hP hQ hw2 hu hj hwS
          go_wp2_with (first
            | (go_at_call 11; refine HSX.out.mono ?_; rintro e w10 ⟨rfl, k10⟩; have HJ10 := As.mk (HJS.out.keep k10); clear k10 HSX))
          go_roundw
          case rel => exact ⟨ver + 1, k + 1, g9, _, _, by go_num, by go_num, by go_num, by omega, by omega, by omega, HJ10⟩
          case measure => simp [intOf]; omega
      · obtain rfl : k = n := by omega
        have HMP : As (Calls Try.prog 14 #[.pointer (some ⟨w.heap.size, 0, none⟩)] wr fun e w' => ∃ g1 c1 Aj cj Ak ck, e = .returned (.agg #[.int .i64 (ver : Int), .slice (some ⟨g1, 0, none⟩) 2 c1]) ∧ w'.cell? ⟨g1, 0, none⟩ = some (.slice Aj r0.length cj) ∧ Rd w' Aj (iv .i64 r0) ∧ w'.cell? ⟨g1, 1, none⟩ = some (.slice Ak r1.length ck) ∧ Rd w' Ak (iv .i64 r1) ∧ Kp [] wr w') := ⟨by
          refine (map_any [w7.heap.size + 1 + 1] w.heap.size w.heap.size g ver [r0, r1] _ wr HJ.out.st HJ.out.ok).mono ?_
          rintro e w' ⟨A1, c1, rfl, o, k1⟩
          obtain ⟨vs, o1, _, h3⟩ := id o
          obtain ⟨g1, cap, hv, _, _⟩ := own_form o1 (by simp)
          cases hv
          obtain ⟨Aj, cj, hc, hr⟩ := own_list o rfl
          obtain ⟨u1, hu1, ho1, _⟩ := h3 1 (by simp)
          obtain ⟨Ak, ck, rfl, _, _, hrk, _⟩ := own_rd ho1.1
          obtain ⟨_, _, hv, _, _, rr, _⟩ := own_rd o1
          cases hv
          obtain ⟨a, ha, hck⟩ := rr 1 _ hu1
          cases ha
          rw [Addr.add_lit] at hck
          exact ⟨g1, _, Aj, cj, Ak, ck, rfl, hc, hr, hck, hrk, k1⟩⟩
        obtain ⟨B0, d0, B1, d1, hwb, ww0, ww1⟩ := HJ.out.want
        have p0 := blk_cell hwb 0 rfl
        have p1 := blk_cell hwb 1 rfl
        obtain ⟨m0, hm0⟩ : ∃ m, r0.length = m := ⟨_, rfl⟩
        obtain ⟨m1, hm1⟩ : ∃ m, r1.length = m := ⟨_, rfl⟩
        have hl7 := HJ.out.len
        rw [hm0, hm1] at HMP hl7
        have p0 : wr.cell? ⟨w7.heap.size + 1 + 1, 0, none⟩ = some (.slice B0 m0 d0) := by rw [← hm0]; exact p0
        have p1 : wr.cell? ⟨w7.heap.size + 1 + 1, 1, none⟩ = some (.slice B1 m1 d1) := by rw [← hm1]; exact p1
        have HP0 := As.mk p0
        have HP1 := As.mk p1
        have HIN : As (∀ wX A1 c1 A2 c2 n xs, xs.length = n → n ≤ 7 → Rd wX A1 (iv .i64 xs) → Rd wX A2 (iv .i64 xs) → Calls Try.prog 15 #[.slice A1 n c1, .slice A2 n c2] wX fun e w' => e = .returned (.bool true) ∧ Kp [] wX w') := ⟨fun wX A1 c1 A2 c2 n xs hn hl r1 r2 => by
          refine (ints_any A1 A2 n c1 n c2 xs xs wX hn hn r1 r2 (by omega)).mono ?_
          rintro e w' ⟨rfl, q, rfl⟩
          exact ⟨by rw [decide_eq_true rfl], (Kp.refl [] wX).drewN q⟩⟩
        have HW0 := As.mk ww0.rd
        have HW1 := As.mk ww1.rd
        have HM0 := As.mk hm0
        have HM1 := As.mk hm1
        have HL7 := As.mk hl7
        have HKP := As.mk HJ.out.kp
        have hlw := HJ.out.lo.2
        have HST := As.mk HJ.out.st
        clear hwb ww0 ww1 hm0 hm1 hl7 p0 p1
        go_upto_region 30 with (first
          | (go_at_call 14; refine HMP.out.mono ?_; rintro e w8 ⟨g8, c8, Aj, cj, Ak, ck, rfl, hcj, hrj, hck, hrk, k8⟩; have HCJ := As.mk hcj; have HRJ := As.mk hrj; have HCK := As.mk hck; have HRK := As.mk hrk; have HK8 := As.mk k8; clear hcj hrj hck hrk k8 HMP))
        obtain ⟨wT, hwT⟩ : ∃ wT, wT = w8.alloc (.cells #[.int .i64 (ver : Int), .slice (some ⟨g8, 0, none⟩) 2 c8] 36) := ⟨_, rfl⟩
        have kT : Kp [] w8 wT := by rw [hwT]; exact (Kp.refl [] w8).alloc _
        have mT : man.MapAt wT w8.heap.size (ver : Int) (.slice (some ⟨g8, 0, none⟩) 2 c8) := by rw [hwT]; exact man.MapAt.new w8 _ _
        rw [← hwT]
        clear hwT
        have KX : As (∀ wY, Kp [] wT wY → wY.cell? ⟨w8.heap.size, 0, none⟩ = some (.int .i64 (ver : Int)) ∧ wY.cell? ⟨w8.heap.size, 1, none⟩ = some (.slice (some ⟨g8, 0, none⟩) 2 c8) ∧ wY.cell? ⟨g8, 0, none⟩ = some (.slice Aj m0 cj) ∧ wY.cell? ⟨g8, 1, none⟩ = some (.slice Ak m1 ck) ∧ wY.cell? ⟨w7.heap.size + 1 + 1, 0, none⟩ = some (.slice B0 m0 d0) ∧ wY.cell? ⟨w7.heap.size + 1 + 1, 1, none⟩ = some (.slice B1 m1 d1)) := ⟨fun wY kY => by
          have k9 := kT.trans kY (by simp)
          have k10 := HK8.out.trans k9 (by simp)
          exact ⟨(mT.kp kY (by simp)).cells.1, (mT.kp kY (by simp)).cells.2, k9.cell HCJ.out (by simp), k9.cell HCK.out (by simp), k10.cell HP0.out (by simp), k10.cell HP1.out (by simp)⟩⟩
        have HI0 : As (∀ wY, Kp [] wT wY → Calls Try.prog 15 #[.slice Aj m0 cj, .slice B0 m0 d0] wY fun e w' => e = .returned (.bool true) ∧ Kp [] wT w') := ⟨fun wY kY => by
          have k9 := kT.trans kY (by simp)
          refine (HIN.out wY Aj cj B0 d0 m0 r0 HM0.out HL7.out.1 (k9.rd HRJ.out (fun _ _ => by simp)) ((HK8.out.trans k9 (by simp)).rd HW0.out (fun _ _ => by simp))).mono ?_
          rintro e w' ⟨rfl, k⟩
          exact ⟨rfl, kY.trans k (by simp)⟩⟩
        have HI1 : As (∀ wY, Kp [] wT wY → Calls Try.prog 15 #[.slice Ak m1 ck, .slice B1 m1 d1] wY fun e w' => e = .returned (.bool true) ∧ Kp [] wT w') := ⟨fun wY kY => by
          have k9 := kT.trans kY (by simp)
          refine (HIN.out wY Ak ck B1 d1 m1 r1 HM1.out HL7.out.2 (k9.rd HRK.out (fun _ _ => by simp)) ((HK8.out.trans k9 (by simp)).rd HW1.out (fun _ _ => by simp))).mono ?_
          rintro e w' ⟨rfl, k⟩
          exact ⟨rfl, kY.trans k (by simp)⟩⟩
        have HAP : As (∀ wY, Kp [] wT wY → Calls Try.prog 16 #[.pointer (some ⟨w.heap.size, 0, none⟩)] wY fun e w' => e = .returned (.int .i64 (2 + (k : Int))) ∧ w' = wY) := ⟨fun wY kY => by
          have h9 := applied_any [w7.heap.size + 1 + 1] w.heap.size w.heap.size g ver [r0, r1] ((2 + k : Nat) : Int) wY (HST.out.kp ((HK8.out.trans kT (by simp)).trans kY (by simp)) (by simp))
          rwa [show ((2 + k : Nat) : Int) = 2 + (k : Int) from by omega] at h9⟩
        have HKT : As (Kp [] w wT) := ⟨(HKP.out.trans HK8.out (by simp)).trans kT (by simp)⟩
        have HKN : As (∀ wY, Kp [] wT wY → Calls Try.prog 8 #[] wY fun e w' => e = .returned (.bool true) ∧ Kp [] wT w' ∧ Kp [] w w') := ⟨fun wY kY => by
          refine (known_any wY).mono ?_
          rintro e w' ⟨rfl, k⟩
          have := kY.trans k (by simp)
          exact ⟨rfl, this, HKT.out.trans this (by simp)⟩⟩
        have bver : ((ver : Int) == (ver : Int)) = true := by simp
        have bk : ((2 : Int) + (k : Int) == 2 + (k : Int)) = true := by simp
        have sk : IntKind.i64.wrap (2 + (k : Int)) = 2 + (k : Int) := by rw [IntKind.wrap_i64]; omega
        clear kT mT HSM HA1 HA2 HFO HS0 HKG
        go_region_held3 (fun w' => w'.cell? ⟨w8.heap.size, 0, none⟩ = some (.int .i64 (ver : Int)) ∧ w'.cell? ⟨w8.heap.size, 1, none⟩ = some (.slice (some ⟨g8, 0, none⟩) 2 c8) ∧ w'.cell? ⟨g8, 0, none⟩ = some (.slice Aj m0 cj) ∧ w'.cell? ⟨g8, 1, none⟩ = some (.slice Ak m1 ck) ∧ w'.cell? ⟨w7.heap.size + 1 + 1, 0, none⟩ = some (.slice B0 m0 d0) ∧ w'.cell? ⟨w7.heap.size + 1 + 1, 1, none⟩ = some (.slice B1 m1 d1))
          (first | exact KX.out _ (Kp.refl [] _) | exact KX.out _ (Kp.refl [] _).drew | exact KX.out _ ka.out | exact KX.out _ kb.out | exact KX.out _ kc.out) (first
          | (go_at_call 15; refine (HI0.out _ (by first | exact Kp.refl [] _ | exact (Kp.refl [] _).drew | exact (Kp.refl [] _).drewN _)).mono ?_; rintro e wa ⟨rfl, k9⟩; have ka := As.mk k9; clear k9 HI0)
          | (go_at_call 15; refine (HI1.out _ ka.out).mono ?_; rintro e wb ⟨rfl, k9⟩; have kb := As.mk k9; clear k9 HI1)
          | (go_at_call 16; refine (HAP.out _ kb.out).mono ?_; rintro e wc ⟨rfl, rfl⟩)
          | (go_at_call 8; refine (HKN.out _ kb.out).mono ?_; rintro e wd ⟨rfl, k9, k10⟩; have kc := As.mk k9; have HKE := As.mk k10; clear k9 k10))
        all_goals go_wp2
        all_goals go_ret
        all_goals exact ⟨rfl, HKE.out.below⟩

theorem mver_row (w : World) (A : Option Addr) (n c : Nat) (xs : List Int) (hn : xs.length = n) (hr : Rd w A (iv .i64 xs)) (_ : n ≤ c) (_ : c ≤ 9223372036854775807) (_ : A = none → c = 0) (_ : ∀ x ∈ xs, (Lit.int .i64 x).wf = true) (hz : n * 8 ≤ 140737488351232) :
    Calls Try.prog 3 #[.slice A n c] w fun e w' => e = .returned (.bool true) ∧ Below w.heap.size w w' :=
  mver_law w A n c xs hn hr (by omega)
end Go.Proofs.Ytiabdeciadfiiaa.haystacklaw21
