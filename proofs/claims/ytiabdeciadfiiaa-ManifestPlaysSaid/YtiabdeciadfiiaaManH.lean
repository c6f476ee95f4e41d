/- Package manifest: New, Apply, Skip, Applied, Snapshot, Install. -/
import Derived.Test.YtiabdeciadfiiaaManG
namespace Go.Proofs.Ytiabdeciadfiiaa.man
open Go.RowKit H O opk

/-- A block is as before, or none, or new. -/
def AtN (n : Nat) (g g' : Option Nat) : Prop := ∀ k, g' = some k → g = some k ∨ n ≤ k
theorem At.n {n : Nat} {g g' : Option Nat} (h : At n g g') : AtN n g g' := by
  intro k hk
  rcases h with rfl | ⟨j, rfl, hj⟩
  · exact .inl hk
  · exact .inr (by have := Option.some.inj hk; omega)
theorem AtN.refl (n : Nat) (g : Option Nat) : AtN n g g := fun _ hk => .inl hk
theorem AtN.low {n m : Nat} {g g' : Option Nat} (h : AtN n g g') (hm : m ≤ n) : AtN m g g' := fun k hk => by
  rcases h k hk with e | e
  · exact .inl e
  · exact .inr (by omega)
/-- the number of the last change is written -/
theorem MSt.set2 {T : List Nat} {lo b : Nat} {g : Option Nat} {ver : Nat} {sh : List (List Int)} {done : Int} {w : World} (h : MSt T lo b g ver sh done w) (d : Int) :
    (∃ A c, w.heap[b]? = some (.cells #[.int .i64 (ver : Int), .slice A sh.length c, .int .i64 done] 77 (0, 0))) ∧ MSt T lo b g ver sh d (w.setCell ⟨b, 2, none⟩ (.int .i64 d)) ∧ Kp [b] w (w.setCell ⟨b, 2, none⟩ (.int .i64 d)) := by
  obtain ⟨A, c, h1, h2, h3⟩ := h.blk
  have k1 : Kp [b] w (w.setCell ⟨b, 2, none⟩ (.int .i64 d)) := (Kp.refl _ w).setCell (.inl (by simp)) _
  refine ⟨⟨A, c, h1⟩, ⟨⟨A, c, heap_setCell_same w b 2 _ _ (.int .i64 d) h1, h2, h3.kp k1 (fun x hx => .inl (by simp at hx; simp [hx])) (fun y hy hm => ?_) (fun x hx => .inl hx)⟩, h.apart⟩, k1⟩
  rw [ownBlock_slice] at hy
  simp at hm
  exact h.apart b (by simp) (by rw [← h2, hy, hm])
/-- another map is laid -/
theorem MSt.set3 {T : List Nat} {lo b : Nat} {g : Option Nat} {ver ver2 n c : Nat} {sh l : List (List Int)} {done d : Int} {w w0 : World} {A : Option Addr} (h : MSt T lo b g ver sh done w) (hn : l.length = n) (ho : OwnL [] w w0.heap.size (.slice A n c) l) (hlo : lo ≤ w0.heap.size) (hT : ∀ x ∈ T, x < w0.heap.size) (hb : b < w0.heap.size) :
    MSt T lo b (A.map Addr.block) ver2 l d (((w.setCell ⟨b, 0, none⟩ (.int .i64 (ver2 : Int))).setCell ⟨b, 1, none⟩ (.slice A n c)).setCell ⟨b, 2, none⟩ (.int .i64 d)) ∧ AtN w0.heap.size g (A.map Addr.block) ∧ Kp [b] w (((w.setCell ⟨b, 0, none⟩ (.int .i64 (ver2 : Int))).setCell ⟨b, 1, none⟩ (.slice A n c)).setCell ⟨b, 2, none⟩ (.int .i64 d)) := by
  subst hn
  obtain ⟨A0, c0, h1, _, _⟩ := h.blk
  have k1 : Kp [b] w (((w.setCell ⟨b, 0, none⟩ (.int .i64 (ver2 : Int))).setCell ⟨b, 1, none⟩ (.slice A l.length c)).setCell ⟨b, 2, none⟩ (.int .i64 d)) := (((Kp.refl _ w).setCell (.inl (by simp)) _).setCell (.inl (by simp)) _).setCell (.inl (by simp)) _
  have e1 := heap_setCell_same w b 0 _ _ (.int .i64 (ver2 : Int)) h1
  have e2 := heap_setCell_same _ b 1 _ _ (.slice A l.length c) e1
  have e3 := heap_setCell_same _ b 2 _ _ (.int .i64 d) e2
  obtain ⟨_, _, hv, _, _, _, hA⟩ := ho.form
  cases hv
  have hne : ∀ x ∈ b :: T, A.map Addr.block ≠ some x := by
    intro x hx e
    have hxl : x < w0.heap.size := by
      rcases List.mem_cons.1 hx with rfl | hx
      · exact hb
      · exact hT x hx
    cases A with
    | none => cases e
    | some a => have := (hA a rfl).1; have : a.block = x := by simpa using e
                omega
  have ho2 : OwnL (b :: T) w w0.heap.size (.slice A l.length c) l := ho.kp (Kp.refl [] w) (by simp) (by simp) (fun x hx => .inr (.inl (by
    rcases List.mem_cons.1 hx with rfl | hx
    · omega
    · exact hT x hx)))
  refine ⟨⟨⟨A, c, e3, rfl, (ho2.kp k1 (fun x hx => .inl (by simp at hx; simp [hx])) (fun y hy hm => ?_) (fun x hx => .inl hx)).lower hlo⟩, hne⟩, ?_, k1⟩
  · rw [ownBlock_slice] at hy
    simp at hm
    exact hne b (by simp) (by rw [hy, hm])
  · intro k hk
    cases A with
    | none => cases hk
    | some a => exact .inr (by have := (hA a rfl).1; have : a.block = k := by simpa using hk
                               omega)

/-- a new Manifest -/
theorem new_any (w : World) : Calls Try.prog 9 #[] w fun e w' => e = .returned (.pointer (some ⟨w.heap.size, 0, none⟩)) ∧ w' = w.alloc (.cells #[.int .i64 0, .slice none 0 0, .int .i64 0] 77) := by
  go_enter Try.func9, Try.ntmps9
  go_wp2
  go_ret
  exact ⟨rfl, rfl⟩
theorem MSt.new {T : List Nat} {lo : Nat} (w : World) : MSt T lo w.heap.size none 0 [] 0 (w.alloc (.cells #[.int .i64 0, .slice none 0 0, .int .i64 0] 77)) :=
  ⟨⟨none, 0, heap_alloc_new w _, rfl, OwnL.nil _ _ _⟩, by simp⟩

def ApplyPost (T : List Nat) (lo b : Nat) (g : Option Nat) (ver : Nat) (sh : List (List Int)) (done idx : Int) (xs : List Int) (w : World) (e : Ending) (w' : World) : Prop :=
  ∃ v g', e = .returned v ∧ Own 5 .u8 w' w.heap.size v (mApply ver sh done idx xs).2 ∧ MSt T lo b g' (mApply ver sh done idx xs).1.1 (mApply ver sh done idx xs).1.2.1 (mApply ver sh done idx xs).1.2.2 w' ∧ AtN w.heap.size g g' ∧ Kp (b :: g.toList) w w'

set_option maxHeartbeats 4000000 in
set_option maxRecDepth 100000 in
theorem apply_gen (T : List Nat) (lo b : Nat) (g : Option Nat) (ver : Nat) (sh : List (List Int)) (done idx : Int) (A : Option Addr) (n c : Nat) (xs : List Int) (w : World) (hM : MSt T lo b g ver sh done w) (hok : MapOk ver sh) (hlo : lo ≤ w.heap.size) (hT : ∀ x ∈ T, x < w.heap.size)
    (hd : 0 ≤ done ∧ done ≤ 1000000) (hn : xs.length = n) (h0 : (∀ a, A = some a → a.block ≠ b) ∨ n = 0) (hr : Rd w A (iv .u8 xs)) (hnil : A = none → c = 0) (hb : n ≤ 140737488351232) (hw : Wf xs) :
    Calls Try.prog 12 #[.pointer (some ⟨b, 0, none⟩), .int .i64 idx, .slice A n c] w (ApplyPost T lo b g ver sh done idx xs w) := by
  obtain ⟨⟨A0, c0, hblk⟩, hM2, hK2⟩ := hM.set2 idx
  have q2 := blk_cell hblk 2 rfl
  have f2 := blk_free hblk 2
  obtain ⟨hd0, hd1⟩ := hd
  have HM := As.mk hM
  by_cases hi : idx = done + 1
  · subst hi
    have HZ : As (mApply ver sh done (done + 1) xs = (((mDo ver sh xs).1, (mDo ver sh xs).2.1, done + 1), repBytes (mDo ver sh xs).2.2 [((mDo ver sh xs).1 : Int)])) := ⟨by rw [mApply, if_pos rfl]⟩
    obtain ⟨v2, hv2⟩ : ∃ v, v = (mDo ver sh xs).1 := ⟨_, rfl⟩
    obtain ⟨z2, hz2⟩ : ∃ v, v = (mDo ver sh xs).2.2 := ⟨_, rfl⟩
    have HD := As.mk (does_any T lo b g ver sh (done + 1) A n c xs _ hM2 hok (Nat.le_trans hlo hK2.size) (fun x hx => Nat.lt_of_lt_of_le (hT x hx) hK2.size) hn (by
      rcases h0 with h0 | h0
      · exact hK2.rd hr (fun a ha => by simp; exact h0 a ha)
      · have e : xs = [] := List.eq_nil_of_length_eq_zero (by omega)
        rw [e]; exact Rd.nil _ _) hnil hb hw)
    have HENC : As (∀ w3, Calls Try.prog 43 #[.agg #[.int .i64 z2, .slice (some ⟨w3.heap.size, 0, none⟩) 1 1]] (w3.alloc (.cells #[.int .i64 (v2 : Int)] 3)) fun e w4 => ∃ v4, e = .returned v4 ∧ Own 5 .u8 w4 w3.heap.size v4 (repBytes z2 [(v2 : Int)]) ∧ Kp [] w3 w4) := ⟨fun w3 => by
      refine (encRep_any z2 (some ⟨w3.heap.size, 0, none⟩) 1 1 [(v2 : Int)] _ rfl (rd_one w3 _ _) (Nat.le_refl _) (by simp) (by omega)).mono ?_
      rintro e w4 ⟨v4, rfl, o, k⟩
      rw [World.size_alloc] at o
      exact ⟨v4, rfl, o.lower (by omega), ((Kp.refl [] w3).alloc _).trans k (by simp)⟩⟩
    have HK2 := As.mk hK2
    have HV2 := As.mk hv2
    have HZ2 := As.mk hz2
    clear hM hok hlo hT hn h0 hr hnil hb hw hM2 hK2 hblk hv2 hz2
    go_enter Try.func12, Try.ntmps12
    go_wp2_with (first
      | (go_at_call 42; refine HD.out.mono ?_; rintro e w3 ⟨g3, rfl, M3, G3, K3⟩; rw [← HZ2.out]; rw [← HV2.out] at M3; obtain ⟨A3, c3, hb3, _, _⟩ := M3.blk; have q0 := blk_cell hb3 0 rfl; have HM3 := As.mk M3; have HG3 := As.mk G3; have HK3 := As.mk K3; have HEN := As.mk (HENC.out w3); clear M3 G3 K3 hb3 HD)
      | (go_at_call 43; refine HEN.out.mono ?_; rintro e w4 ⟨v4, rfl, O4, K4⟩; have HO4 := As.mk O4; have HK4 := As.mk K4; clear O4 K4 HEN))
    go_ret
    have hs2 := HK2.out.size
    have hs3 := HK3.out.size
    have hG := HG3.out
    rw [World.size_setCell] at hG hs3
    refine ⟨v4, g3, rfl, ?_, ?_, At.n hG, ?_⟩
    · rw [HZ.out, ← HZ2.out, ← HV2.out]
      exact HO4.out.lower (by omega)
    · rw [HZ.out]
      have := HM3.out.kp HK4.out (by simp)
      rw [HV2.out] at this
      exact this
    · exact ((HK2.out.mono (T := b :: g.toList) (by intro x hx; simp at hx; simp [hx])).trans HK3.out (fun x hx => .inl hx)).trans HK4.out (by simp)
  · have HZ : As (mApply ver sh done idx xs = ((ver, sh, done), [])) := ⟨by rw [mApply, if_neg hi]⟩
    have b1 : (idx != done + 1) = true := by simp; exact hi
    clear hM hok hlo hT hn h0 hr hnil hb hw hM2 hK2 hblk hi
    go_enter Try.func12, Try.ntmps12
    go_wp2
    go_ret
    exact ⟨_, g, rfl, by rw [HZ.out]; exact Own.nil _ _ _ _, by rw [HZ.out]; exact HM.out, AtN.refl _ _, Kp.refl _ _⟩
theorem apply_any (T : List Nat) (lo b : Nat) (g : Option Nat) (ver : Nat) (sh : List (List Int)) (done idx : Int) (A : Option Addr) (n c : Nat) (xs : List Int) (w : World) (hM : MSt T lo b g ver sh done w) (hok : MapOk ver sh) (hlo : lo ≤ w.heap.size) (hT : ∀ x ∈ T, x < w.heap.size)
    (hd : 0 ≤ done ∧ done ≤ 1000000) (hn : xs.length = n) (h0 : ∀ a, A = some a → a.block ≠ b) (hr : Rd w A (iv .u8 xs)) (hnil : A = none → c = 0) (hb : n ≤ 140737488351232) (hw : Wf xs) :
    Calls Try.prog 12 #[.pointer (some ⟨b, 0, none⟩), .int .i64 idx, .slice A n c] w (ApplyPost T lo b g ver sh done idx xs w) :=
  apply_gen T lo b g ver sh done idx A n c xs w hM hok hlo hT hd hn (.inl h0) hr hnil hb hw

/-- behind Skip -/
def skipD (done idx : Int) : Int := if idx = done + 1 then idx else done
theorem skip_any (T : List Nat) (lo b : Nat) (g : Option Nat) (ver : Nat) (sh : List (List Int)) (done idx : Int) (w : World) (hM : MSt T lo b g ver sh done w) (hd : 0 ≤ done ∧ done ≤ 1000000) :
    Calls Try.prog 27 #[.pointer (some ⟨b, 0, none⟩), .int .i64 idx] w fun e w' => e = .returned (.tuple #[]) ∧ MSt T lo b g ver sh (skipD done idx) w' ∧ Kp [b] w w' := by
  obtain ⟨⟨A0, c0, hblk⟩, hM2, hK2⟩ := hM.set2 idx
  have q2 := blk_cell hblk 2 rfl
  have f2 := blk_free hblk 2
  obtain ⟨hd0, hd1⟩ := hd
  have HM := As.mk hM
  have HM2 := As.mk hM2
  have HK2 := As.mk hK2
  by_cases hi : idx = done + 1
  · subst hi
    clear hM hblk hM2 hK2
    go_enter Try.func27, Try.ntmps27
    go_wp2
    go_end0
    exact ⟨rfl, by rw [skipD, if_pos rfl]; exact HM2.out, HK2.out⟩
  · have b1 : (idx == done + 1) = false := by simp; exact hi
    have HI := As.mk hi
    clear hM hblk hM2 hK2 hi
    go_enter Try.func27, Try.ntmps27
    go_wp2
    go_end0
    exact ⟨rfl, by rw [skipD, if_neg HI.out]; exact HM.out, Kp.refl _ _⟩
theorem applied_any (T : List Nat) (lo b : Nat) (g : Option Nat) (ver : Nat) (sh : List (List Int)) (done : Int) (w : World) (hM : MSt T lo b g ver sh done w) :
    Calls Try.prog 16 #[.pointer (some ⟨b, 0, none⟩)] w fun e w' => e = .returned (.int .i64 done) ∧ w' = w := by
  obtain ⟨A0, c0, hblk, _⟩ := hM.blk
  have q2 := blk_cell hblk 2 rfl
  clear hM hblk
  go_enter Try.func16, Try.ntmps16
  go_wp2
  go_ret
  exact ⟨rfl, rfl⟩
theorem gSize_ok {ver : Nat} {sh : List (List Int)} (h : MapOk ver sh) : gSize sh ≤ 10000 := by
  have : ∀ (l : List (List Int)), (∀ x ∈ l, x.length ≤ 7) → gSize l ≤ 8 * l.length := by
    intro l h
    induction l with
    | nil => simp [gSize]
    | cons x l ih =>
      have h1 := h x (by simp)
      have h2 := ih (fun y hy => h y (by simp [hy]))
      simp only [gSize, List.map_cons, List.sum_cons, List.length_cons] at h2 ⊢
      omega
  have := this sh h.2.2.1
  have := h.2.1
  omega
theorem snapshot_any (T : List Nat) (lo b : Nat) (g : Option Nat) (ver : Nat) (sh : List (List Int)) (done : Int) (w : World) (hM : MSt T lo b g ver sh done w) (hok : MapOk ver sh) :
    Calls Try.prog 31 #[.pointer (some ⟨b, 0, none⟩)] w (RetOwn 5 .u8 w (mapB ver sh)) := by
  obtain ⟨A, c, hb, hri, hc, hc9, hnil⟩ := hM.ri (S := []) (by simp)
  have q0 := blk_cell hb 0 rfl
  have q1 := blk_cell hb 1 rfl
  obtain ⟨n, hn⟩ : ∃ n, sh.length = n := ⟨_, rfl⟩
  rw [hn] at q1
  have HENC := As.mk (encode_any (ver : Int) A n c sh w hn hri (gSize_ok hok))
  clear hM hok hb hri hc hc9 hnil hn
  go_enter Try.func31, Try.ntmps31
  go_wp2_with (go_at_call 22; refine HENC.out.mono ?_; rintro e w1 ⟨v1, rfl, o1, k1⟩; have HO := As.mk o1; have HK := As.mk k1; clear o1 k1 HENC)
  go_ret
  exact ⟨v1, rfl, HO.out, HK.out⟩

/-- behind Install -/
def instD (ver : Nat) (sh : List (List Int)) (done idx : Int) (xs : List Int) : Nat × List (List Int) × Int := if (mDec xs).2.2 = 0 then ((mDec xs).1, (mDec xs).2.1, idx) else (ver, sh, done)
def InstPost (T : List Nat) (lo b : Nat) (g : Option Nat) (ver : Nat) (sh : List (List Int)) (done idx : Int) (xs : List Int) (w : World) (e : Ending) (w' : World) : Prop :=
  ∃ g', e = .returned (.int .i64 (mDec xs).2.2) ∧ MSt T lo b g' (instD ver sh done idx xs).1 (instD ver sh done idx xs).2.1 (instD ver sh done idx xs).2.2 w' ∧ AtN w.heap.size g g' ∧ Kp (b :: g.toList) w w'

set_option maxHeartbeats 4000000 in
set_option maxRecDepth 100000 in
theorem install_any (T : List Nat) (lo b : Nat) (g : Option Nat) (ver : Nat) (sh : List (List Int)) (done idx : Int) (A : Option Addr) (n c : Nat) (xs : List Int) (w : World) (hM : MSt T lo b g ver sh done w) (hlo : lo ≤ w.heap.size) (hT : ∀ x ∈ T, x < w.heap.size)
    (hn : xs.length = n) (hr : Rd w A (iv .u8 xs)) (hnil : A = none → c = 0) (hb : n ≤ 140737488351232) (hw : Wf xs) :
    Calls Try.prog 29 #[.pointer (some ⟨b, 0, none⟩), .int .i64 idx, .slice A n c] w (InstPost T lo b g ver sh done idx xs w) := by
  have HD := As.mk (decode_any A n c xs w hn hr hnil hb hw)
  obtain ⟨v2, hv2⟩ : ∃ v, (mDec xs).1 = v := ⟨_, rfl⟩
  obtain ⟨l2, hl2⟩ : ∃ v, (mDec xs).2.1 = v := ⟨_, rfl⟩
  obtain ⟨z2, hz2⟩ : ∃ v, (mDec xs).2.2 = v := ⟨_, rfl⟩
  obtain ⟨m, hm⟩ : ∃ m, l2.length = m := ⟨_, rfl⟩
  have HE : As ((mDec xs).1 = v2 ∧ (mDec xs).2.1 = l2 ∧ (mDec xs).2.2 = z2) := ⟨⟨hv2, hl2, hz2⟩⟩
  have HML := As.mk hm
  have HM := As.mk hM
  have HLO := As.mk hlo
  have HT := As.mk hT
  have HD2 : As (Calls Try.prog 18 #[.slice A n c] w fun e w1 => ∃ A1 c1, e = .returned (.tuple #[.agg #[.int .i64 (v2 : Int), .slice A1 m c1], .int .i64 z2]) ∧ OwnL [] w1 w.heap.size (.slice A1 m c1) l2 ∧ Kp [] w w1) := ⟨by
    refine HD.out.mono ?_
    rintro e w1 ⟨A1, c1, rfl, o, k⟩
    rw [hv2, hl2, hz2, hm]
    rw [hl2, hm] at o
    exact ⟨A1, c1, rfl, o, k⟩⟩
  have HBL := As.mk hM.lt.1
  have hbl := hM.lt.1
  by_cases hz : z2 = 0
  · subst hz
    have HZ : As (instD ver sh done idx xs = (v2, l2, idx)) := ⟨by rw [instD, hz2, if_pos rfl, hv2, hl2]⟩
    clear hM hlo hT hn hr hnil hb hw hv2 hl2 hz2 hm HD
    go_enter Try.func29, Try.ntmps29
    go_wp2_with (go_at_call 18; refine HD2.out.mono ?_; rintro e w1 ⟨A1, c1, rfl, o1, k1⟩; have M1 := HM.out.kp k1 (by simp); obtain ⟨A0, c0, hb1, _, _⟩ := M1.blk; have q0 := blk_cell hb1 0 rfl; have q1 := blk_cell hb1 1 rfl; have q2 := blk_cell hb1 2 rfl; have f0 := blk_free hb1 0; have f1 := blk_free hb1 1; have f2 := blk_free hb1 2; have hs1 : b < w1.heap.size := lt_of_block hb1; have d1 : ¬ b = w1.heap.size := (by omega); have HO1 := As.mk o1; have HK1 := As.mk k1; have HM1 := As.mk M1; clear o1 k1 M1 hb1 HD2)
    go_ret
    obtain ⟨m3, a3, k3⟩ := MSt.set3 (w0 := w) (ver2 := v2) (d := idx) HM1.out HML.out HO1.out HLO.out HT.out HBL.out
    refine ⟨A1.map Addr.block, by rw [HE.out.2.2]; rfl, ?_, a3, ((HK1.out.mono (T := b :: g.toList) (by simp)).trans k3 (by intro x hx; simp at hx; simp [hx])).alloc _⟩
    rw [HZ.out]
    exact m3.kp ((Kp.refl [] _).alloc _) (by simp)
  · have HZ : As (instD ver sh done idx xs = (ver, sh, done)) := ⟨by rw [instD, hz2, if_neg hz]⟩
    have b1 : (z2 == 0) = false := by simpa using hz
    clear hM hlo hT hn hr hnil hb hw hv2 hl2 hz2 hm HD hz
    go_enter Try.func29, Try.ntmps29
    go_wp2_with (go_at_call 18; refine HD2.out.mono ?_; rintro e w1 ⟨A1, c1, rfl, o1, k1⟩; have HK1 := As.mk k1; clear o1 k1 HD2)
    go_ret
    exact ⟨g, by rw [HE.out.2.2]; rfl, by rw [HZ.out]; exact HM.out.kp (HK1.out.alloc _) (by simp), AtN.refl _ _, (HK1.out.alloc _).mono (by simp)⟩
end Go.Proofs.Ytiabdeciadfiiaa.man
