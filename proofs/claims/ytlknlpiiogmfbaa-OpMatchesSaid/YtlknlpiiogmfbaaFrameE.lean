/- frame.Scan. -/
import Derived.Test.YtlknlpiiogmfbaaFrameD
import Derived.Test.YtlknlpiiogmfbaaVals
namespace Go.Proofs.Ytlknlpiiogmfbaa.H
open Go.RowKit

theorem RdS.move {S S' : List Nat} {w w' : World} {A : Option Addr} {vs : List Value} (h : RdS S w A vs) (k : Kp S w w') (hS : ∀ x ∈ S', x ∈ S ∨ w.heap.size ≤ x) : RdS S' w' A vs := by
  intro j v hv
  obtain ⟨a, rfl, h1, h2⟩ := h j v hv
  have hl := World.block_lt_of_cell? w _ h2
  rw [add_block] at hl
  refine ⟨a, rfl, fun hm => ?_, k.cell h2 (by rw [add_block]; exact h1)⟩
  rcases hS _ hm with h | h
  · exact h1 h
  · omega
/-- Slices that hold these rows, none of it in the blocks S. -/
def ValsS (S : List Nat) (w : World) (vs : List Value) (l : List (List Int)) : Prop :=
  vs.length = l.length ∧ ∀ j (h : j < l.length), ∃ Aj cj, vs[j]? = some (.slice Aj l[j].length cj) ∧ l[j].length ≤ cj ∧ (Aj = none → cj = 0) ∧ RdS S w Aj (iv .u8 l[j])
theorem ValsS.vals {S : List Nat} {w : World} {vs : List Value} {l : List (List Int)} (h : ValsS S w vs l) : Vals w vs l :=
  ⟨h.1, fun j hj => by obtain ⟨Aj, cj, h1, h2, h3, h4⟩ := h.2 j hj; exact ⟨Aj, cj, h1, h2, h3, h4.rd⟩⟩
theorem ValsS.move {S S' : List Nat} {w w' : World} {vs : List Value} {l : List (List Int)} (h : ValsS S w vs l) (k : Kp S w w') (hS : ∀ x ∈ S', x ∈ S ∨ w.heap.size ≤ x) : ValsS S' w' vs l :=
  ⟨h.1, fun j hj => by obtain ⟨Aj, cj, h1, h2, h3, h4⟩ := h.2 j hj; exact ⟨Aj, cj, h1, h2, h3, h4.move k hS⟩⟩
theorem ValsS.kp {S : List Nat} {w w' : World} {vs : List Value} {l : List (List Int)} (h : ValsS S w vs l) (k : Kp [] w w') : ValsS S w' vs l :=
  ⟨h.1, fun j hj => by obtain ⟨Aj, cj, h1, h2, h3, h4⟩ := h.2 j hj; exact ⟨Aj, cj, h1, h2, h3, h4.kp k (by simp)⟩⟩
theorem ValsS.nil (S : List Nat) (w : World) : ValsS S w [] [] := ⟨rfl, fun j hj => absurd hj (by simp)⟩
theorem ValsS.push {S : List Nat} {w : World} {vs : List Value} {l : List (List Int)} (h : ValsS S w vs l) {lo : Nat} {v : Value} {p : List Int} (o : Own 5 .u8 w lo v p) (hS : ∀ x ∈ S, x < lo) : ValsS S w (vs ++ [v]) (l ++ [p]) := by
  refine ⟨by simp [h.1], fun j hj => ?_⟩
  by_cases hjl : j < l.length
  · obtain ⟨Aj, cj, hv, h1, h2, h3⟩ := h.2 j hjl
    refine ⟨Aj, cj, ?_, ?_, h2, ?_⟩
    · rw [List.getElem?_append_left (by rw [h.1]; exact hjl), hv, List.getElem_append_left hjl]
    · rw [List.getElem_append_left hjl]; exact h1
    · rw [List.getElem_append_left hjl]; exact h3
  · have hj2 : j = l.length := by simp at hj; omega
    subst hj2
    obtain ⟨A, c, hv, h1, _, _, h4⟩ := own_rd o.1
    subst hv
    refine ⟨A, c, ?_, ?_, h4, ?_⟩
    · rw [List.getElem?_append_right (by rw [h.1]; exact Nat.le_refl _), h.1]
      simp
    · simpa using h1
    · have := o.rds hS
      simpa using this
end Go.Proofs.Ytlknlpiiogmfbaa.H
namespace Go.Proofs.Ytlknlpiiogmfbaa.frame
open Go.RowKit H O joins

/-- behind Scan -/
def FScan (xs : List Int) (w : World) (e : Ending) (w' : World) : Prop :=
  ∃ A c, e = .returned (.tuple #[.slice A (fScan xs).1.length c, .int .i64 (((fScan xs).2 : Nat) : Int)]) ∧ Rs [] w' A (fScan xs).1 ∧ (fScan xs).1.length ≤ c ∧ (A = none → c = 0) ∧ Kp [] w w'
/-- where Scan stands -/
structure At_ (xs : List Int) (w : World) (at_ m : Nat) (v : Value) (wr : World) (vs : List Value) (done : List (List Int)) : Prop where
  own : wr.ownsRow 0 22 1 v m vs
  vals : ValsS v.ownBlock.toList wr vs done
  lo : ∀ g, v.ownBlock = some g → w.heap.size ≤ g
  kp : Kp [] w wr
  eq : fScan xs = (done ++ (fScan (xs.drop at_)).1, at_ + (fScan (xs.drop at_)).2)
theorem At_.done {xs : List Int} {w : World} {at_ m : Nat} {v : Value} {wr : World} {vs : List Value} {done : List (List Int)} (h : At_ xs w at_ m v wr vs done) (he : fScan (xs.drop at_) = ([], 0)) : FScan xs w (.returned (.tuple #[v, .int .i64 (at_ : Int)])) wr := by
  have e := h.eq
  rw [he, List.append_nil, Nat.add_zero] at e
  obtain ⟨A, c, rfl, h1, h2, h3, h4⟩ := own_rd h.own
  have hm : done.length = m := by rw [← h.vals.1]; have := h.own.1; omega
  unfold FScan
  rw [e]
  exact ⟨A, c, by rw [hm], Vals.rs h.vals.vals h3, by rw [hm]; exact h1, h4, h.kp⟩

theorem At_.step {xs ys p : List Int} {w wr w1 w2 : World} {at_ m k : Nat} {v v1 v2 : Value} {vs : List Value} {done : List (List Int)} {o : Obj} (h : At_ xs w at_ m v wr vs done) (hy : xs.drop at_ = ys)
    (hst : fScan ys = (p :: (fScan (ys.drop k)).1, k + (fScan (ys.drop k)).2)) (k1 : Kp [] wr w1) (o1 : Own 5 .u8 w1 wr.heap.size v1 p) (o2 : w2.ownsRow 0 22 1 v2 (m + 1) (vs ++ [v1])) (k2 : Kp v.ownBlock.toList (w1.alloc o) w2)
    (a2 : At (w1.alloc o).heap.size v.ownBlock v2.ownBlock) : At_ xs w (at_ + k) (m + 1) v2 w2 (vs ++ [v1]) (done ++ [p]) := by
  have hs1 := k1.size
  have hs0 := h.kp.size
  have hlt := own_lt h.own
  have hsz : (w1.alloc o).heap.size = w1.heap.size + 1 := by simp
  refine ⟨o2, (((h.vals.kp k1).push o1 (fun x hx => hlt x (by simpa using hx))).kp ((Kp.refl [] w1).alloc o)).move k2 ?_, a2.ge (by omega) h.lo, ((h.kp.trans k1 (by simp)).alloc o).row k2 (fun x hx => .inr (h.lo x hx)), ?_⟩
  · intro x hx
    have hx' : v2.ownBlock = some x := by simpa using hx
    rcases a2 with h9 | ⟨j, h9, hj⟩
    · exact .inl (by rw [← h9]; exact hx)
    · rw [h9] at hx'
      cases hx'
      exact .inr hj
  · have e := h.eq
    rw [hy, hst] at e
    have hd : ys.drop k = xs.drop (at_ + k) := by rw [← hy, List.drop_drop]
    rw [← hd, e]
    simp [Nat.add_assoc]
theorem own_one {w : World} {lo : Nat} {v : Value} {p : List Int} (o : Own 5 .u8 w lo v p) : ∀ u ∈ [v], u.oneCell' = true := by
  obtain ⟨A, c, rfl, _⟩ := own_rd o.1
  intro u hu
  simp only [List.mem_singleton] at hu
  subst hu
  rfl

set_option maxHeartbeats 8000000 in
set_option maxRecDepth 100000 in
theorem scan_any (A : Option Addr) (n c : Nat) (xs : List Int) (w : World) (hn : xs.length = n) (hr : Rd w A (iv .u8 xs)) (hc : n ≤ c) (hw : Wf xs) (hm : n ≤ 900000) :
    Calls Try.prog 19 #[.slice A n c] w (FScan xs w) := by
  have HR := As.mk hr
  have HW := As.mk hw
  have HL := As.mk hn
  clear hr hw hn
  go_enter Try.func19, Try.ntmps19
  go_wp2
  go_loopw [4, 5] (fun s i wr => ∃ at_ m : Nat, i = .int .i64 (at_ : Int) ∧ at_ ≤ n ∧ m ≤ at_ ∧ As (∃ vs done, At_ xs w at_ m s wr vs done)) (fun _ i _ => n - (intOf i).toNat)
  case atStart => exact ⟨0, 0, rfl, by omega, by omega, ⟨[], [], World.ownsRow_nil w 0 _ 1, ValsS.nil _ _, by simp [Value.ownBlock], Kp.refl _ _, by simp⟩⟩
  case round =>
    obtain ⟨at_, m, rfl, hat, hma, HS⟩ := hrel
    by_cases hlt : at_ < n
    · obtain ⟨vs, done, hs⟩ := HS.out
      clear HS
      obtain ⟨a, rfl, _⟩ := HR.out.lt (by rw [iv_len, HL.out]; omega)
      obtain ⟨a2, hsl2, hrd2⟩ := slice_tail ht8 hz8 a n c at_ (by omega) hc
      obtain ⟨n2, hn2⟩ : ∃ n2, n - at_ = n2 := ⟨_, rfl⟩
      obtain ⟨c2, hc2⟩ : ∃ c2, c - at_ = c2 := ⟨_, rfl⟩
      rw [hn2, hc2] at hsl2
      obtain ⟨ys, hys⟩ : ∃ ys, xs.drop at_ = ys := ⟨_, rfl⟩
      have hyl : ys.length = n2 := by rw [← hys, List.length_drop, HL.out, hn2]
      have hyw : Wf ys := by rw [← hys]; exact HW.out.drop _
      have hyr := hrd2 wr (iv .u8 xs) (by rw [iv_len, HL.out]) (hs.kp.rd_new HR.out (by simp))
      rw [iv_drop, hys] at hyr
      have HD := dec_any (some a2) n2 c2 ys wr hyl hyr (by omega) hyw (by omega)
      unfold FDec at HD
      obtain ⟨er, her⟩ : ∃ e, (fDec ys).2.2 = e := ⟨_, rfl⟩
      obtain ⟨k, hk⟩ : ∃ k, (fDec ys).2.1 = k := ⟨_, rfl⟩
      obtain ⟨P, hP⟩ : ∃ P, (fDec ys).1 = P := ⟨_, rfl⟩
      obtain ⟨N1, hN1⟩ : ∃ N1, P.length = N1 := ⟨_, rfl⟩
      rw [her, hk, hP] at HD
      have HD := As.mk HD
      have HN1 := As.mk hN1
      clear hN1
      have HS := As.mk hs
      by_cases h0 : er = 0
      · subst h0
        have hp := fDec_pos her
        rw [hk, hyl] at hp
        have hyne : ys ≠ [] := by intro h; rw [h] at hyl; simp at hyl; omega
        have HST := As.mk (fScan_step hyne her)
        rw [hk, hP] at HST
        have HYS := As.mk hys
        have hak : at_ + k ≤ n := by omega
        have hk12 := hp.1
        clear hs hrd2 hyl hyw hyr her hk hyne hys hp hc2 hn2 hP
        go_wp2_with (first
          | (go_at_call 14; refine HD.out.mono ?_; rintro e w1 ⟨v1, rfl, o1, k1⟩; have o1' := o1.1; rw [HN1.out] at o1'; obtain ⟨A1, c1, rfl, _⟩ := own_rd o1'; clear o1'; have HO1 := As.mk o1; have HK1 := As.mk k1; have HS1 := As.mk ((HK1.out.own HS.out.own (by simp))); clear o1 k1 HD)
          | (at_builtin; refine appR rfl (.tmp 23) (.tmp 25) rfl u4 m vs rfl (HS1.out.alloc _) (some ⟨w1.heap.size, 0, none⟩) 1 1 [.slice A1 N1 c1] rfl rfl (rd_new w1 [.slice A1 N1 c1] _) (by simp) (own_one HO1.out) (by omega) ?_; intro v2 w2 o2 k2 a2; have HN := As.mk (HS.out.step HYS.out HST.out HK1.out HO1.out o2 k2 a2); clear o2 k2 a2))
        go_roundw
        case rel => exact ⟨at_ + k, m + 1, by go_num, hak, by omega, ⟨_, _, HN.out⟩⟩
        case measure => simp [intOf]; omega
      · have h0b : (er != 0) = true := by simpa using h0
        have HE := As.mk (fScan_end (b := ys) (.inr (by rw [her]; exact h0)))
        have HYS := As.mk hys
        clear hs hrd2 hyl hyw hyr her hk hys hc2 hn2 hP
        go_wp2_with (go_at_call 14; refine HD.out.mono ?_; rintro e w1 ⟨v1, rfl, _, k1⟩; have HK1 := As.mk k1; clear k1 HD)
        go_ret2
        have h9 := HS.out.done (by rw [HYS.out]; exact HE.out)
        unfold FScan at h9 ⊢
        obtain ⟨A9, c9, he9, r9, h9, n9, k9⟩ := h9
        exact ⟨A9, c9, he9, r9.kp HK1.out (by simp), h9, n9, k9.trans HK1.out (by simp)⟩
    · obtain rfl : at_ = n := by omega
      obtain ⟨vs, done, hs⟩ := HS.out
      have HF := As.mk (hs.done (fScan_end (.inl (List.drop_of_length_le (by rw [HL.out]; exact Nat.le_refl _)))))
      clear HS hs
      go_wp2
      go_ret2
      exact HF.out
end Go.Proofs.Ytlknlpiiogmfbaa.frame
