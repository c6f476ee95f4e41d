/- coord: which ask is meant, are all answered: Hear's function values; slices.IndexFunc, ContainsFunc, Index. -/
import Derived.Test.YtdiljpdohmeceaaGreatTkm
import Derived.Test.YtdiljpdohmeceaaGreatCob
import Derived.Deep.QuietTactic
import Derived.BigQuiet
import Derived.Deep.LoopGhost
namespace Go.Proofs.YtdiljpdohmeceaaGreat.co
open Go.RowKit H O opk frame wir

/-- where the first one is of which pr holds; -1: nowhere -/
def IdxR (pr : Nat → Bool) (n : Nat) (r : Int) : Prop := (∃ i : Nat, i < n ∧ pr i = true ∧ (∀ k, k < i → pr k = false) ∧ r = (i : Int)) ∨ ((∀ k, k < n → pr k = false) ∧ r = -1)
theorem IdxR.hit {pr : Nat → Bool} {n k : Nat} {r : Int} (h : IdxR pr n r) (hk : k < n) (h1 : pr k = true) (h2 : ∀ j, j < k → pr j = false) : r = (k : Int) := by
  rcases h with ⟨i, a1, a2, a3, rfl⟩ | ⟨a, _⟩
  · rcases Nat.lt_trichotomy i k with e | e | e
    · rw [h2 i e] at a2; cases a2
    · rw [e]
    · rw [a3 k e] at h1; cases h1
  · rw [a k hk] at h1; cases h1
theorem IdxR.miss {pr : Nat → Bool} {n : Nat} {r : Int} (h : IdxR pr n r) (h2 : ∀ j, j < n → pr j = false) : r = -1 := by
  rcases h with ⟨i, a1, a2, a3, rfl⟩ | ⟨_, a⟩
  · rw [h2 i a1] at a2; cases a2
  · exact a
set_option maxHeartbeats 4000000 in
set_option maxRecDepth 100000 in
theorem index1_any (rb : Nat) (gA n c : Nat) (ps : List Nat) (pr : Nat → Bool) (r : Int) (w : World) (hl : ps.length = n) (hn9 : n ≤ 1000000)
    (hc : ∀ i p, ps[i]? = some p → w.cell? ⟨gA, i, none⟩ = some (ptr p)) (hf : ∀ i p q, ps[i]? = some p → Calls Tryz.prog 46 #[ptr p, .pointer (some ⟨rb, 0, none⟩)] (w.drewN q) fun e w' => e = .returned (.bool (pr i)) ∧ ∃ q', w' = w.drewN q') (hr : IdxR pr n r) :
    Calls Tryz.prog 45 #[.slice (some ⟨gA, 0, none⟩) n c, .func (.func 46) #[] #[.pointer (some ⟨rb, 0, none⟩)]] w fun e w' => e = .returned (.int .i64 r) ∧ ∃ q, w' = w.drewN q := by
  have HC := As.mk hc
  have HF := As.mk hf
  have HR := As.mk hr
  have HL := As.mk hl
  clear hc hf hr hl
  go_enter Tryz.func45, Tryz.ntmps45
  go_wp2
  go_loopw [8] (fun i wr => ∃ (k q : Nat), i = .int .i64 (k : Int) ∧ k ≤ n ∧ As (wr = w.drewN q ∧ ∀ j, j < k → pr j = false)) (fun i _ => n - (intOf i).toNat)
  case atStart => exact ⟨0, 0, rfl, by omega, ⟨rfl, fun j hj => by omega⟩⟩
  case round =>
    obtain ⟨k, q, rfl, hk, HI⟩ := hrel
    by_cases hlt : k < n
    · have i1 : (k : Int) < (n : Int) := by omega
      obtain ⟨p, hp⟩ : ∃ p, ps[k]? = some p := ⟨_, List.getElem?_eq_getElem (by rw [HL.out]; exact hlt)⟩
      obtain ⟨b, hb⟩ : ∃ b, pr k = b := ⟨_, rfl⟩
      have c0 : wr.cell? ⟨gA, k, none⟩ = some (ptr p) := by rw [HI.out.1]; exact HC.out k p hp
      unfold ptr at c0
      have HP := As.mk hb
      have H1 : As (Calls Tryz.prog 46 #[.pointer (some ⟨p, 0, none⟩), .pointer (some ⟨rb, 0, none⟩)] wr fun e w' => e = .returned (.bool b) ∧ ∃ q', w' = w.drewN q') := ⟨by
        rw [← hb, HI.out.1]
        exact HF.out k p q hp⟩
      clear hp hb
      cases b
      · go_wp2_with (go_at_call 46; refine H1.out.mono ?_; rintro e w1 ⟨rfl, q1, hq1⟩; have HQ := As.mk hq1; clear hq1 H1 c0)
        go_roundw
        case rel => exact ⟨k + 1, q1, by go_num, by omega, ⟨HQ.out, fun j hj => by
          by_cases e : j = k
          · rw [e]; exact HP.out
          · exact HI.out.2 j (by omega)⟩⟩
        case measure => simp [intOf]; omega
      · have HE := As.mk (HR.out.hit hlt HP.out HI.out.2)
        go_wp2_with (go_at_call 46; refine H1.out.mono ?_; rintro e w1 ⟨rfl, q1, hq1⟩; have HQ := As.mk hq1; clear hq1 H1 c0)
        go_ret
        exact ⟨by rw [HE.out]; rfl, q1, HQ.out⟩
    · have i1 : ¬ (k : Int) < (n : Int) := by omega
      have HE := As.mk (HR.out.miss (fun j hj => HI.out.2 j (by omega)))
      go_wp2
      go_ret
      exact ⟨by rw [HE.out]; rfl, q, HI.out.1⟩
set_option maxHeartbeats 4000000 in
set_option maxRecDepth 100000 in
theorem index2_any (gA n c : Nat) (ps : List Nat) (pr : Nat → Bool) (r : Int) (w : World) (hl : ps.length = n) (hn9 : n ≤ 1000000)
    (hc : ∀ i p, ps[i]? = some p → w.cell? ⟨gA, i, none⟩ = some (ptr p)) (hf : ∀ i p q, ps[i]? = some p → Calls Tryz.prog 51 #[ptr p] (w.drewN q) fun e w' => e = .returned (.bool (pr i)) ∧ ∃ q', w' = w.drewN q') (hr : IdxR pr n r) :
    Calls Tryz.prog 45 #[.slice (some ⟨gA, 0, none⟩) n c, .func (.func 51) #[] #[]] w fun e w' => e = .returned (.int .i64 r) ∧ ∃ q, w' = w.drewN q := by
  have HC := As.mk hc
  have HF := As.mk hf
  have HR := As.mk hr
  have HL := As.mk hl
  clear hc hf hr hl
  go_enter Tryz.func45, Tryz.ntmps45
  go_wp2
  go_loopw [8] (fun i wr => ∃ (k q : Nat), i = .int .i64 (k : Int) ∧ k ≤ n ∧ As (wr = w.drewN q ∧ ∀ j, j < k → pr j = false)) (fun i _ => n - (intOf i).toNat)
  case atStart => exact ⟨0, 0, rfl, by omega, ⟨rfl, fun j hj => by omega⟩⟩
  case round =>
    obtain ⟨k, q, rfl, hk, HI⟩ := hrel
    by_cases hlt : k < n
    · have i1 : (k : Int) < (n : Int) := by omega
      obtain ⟨p, hp⟩ : ∃ p, ps[k]? = some p := ⟨_, List.getElem?_eq_getElem (by rw [HL.out]; exact hlt)⟩
      obtain ⟨b, hb⟩ : ∃ b, pr k = b := ⟨_, rfl⟩
      have c0 : wr.cell? ⟨gA, k, none⟩ = some (ptr p) := by rw [HI.out.1]; exact HC.out k p hp
      unfold ptr at c0
      have HP := As.mk hb
      have H1 : As (Calls Tryz.prog 51 #[.pointer (some ⟨p, 0, none⟩)] wr fun e w' => e = .returned (.bool b) ∧ ∃ q', w' = w.drewN q') := ⟨by
        rw [← hb, HI.out.1]
        exact HF.out k p q hp⟩
      clear hp hb
      cases b
      · go_wp2_with (go_at_call 51; refine H1.out.mono ?_; rintro e w1 ⟨rfl, q1, hq1⟩; have HQ := As.mk hq1; clear hq1 H1 c0)
        go_roundw
        case rel => exact ⟨k + 1, q1, by go_num, by omega, ⟨HQ.out, fun j hj => by
          by_cases e : j = k
          · rw [e]; exact HP.out
          · exact HI.out.2 j (by omega)⟩⟩
        case measure => simp [intOf]; omega
      · have HE := As.mk (HR.out.hit hlt HP.out HI.out.2)
        go_wp2_with (go_at_call 51; refine H1.out.mono ?_; rintro e w1 ⟨rfl, q1, hq1⟩; have HQ := As.mk hq1; clear hq1 H1 c0)
        go_ret
        exact ⟨by rw [HE.out]; rfl, q1, HQ.out⟩
    · have i1 : ¬ (k : Int) < (n : Int) := by omega
      have HE := As.mk (HR.out.miss (fun j hj => HI.out.2 j (by omega)))
      go_wp2
      go_ret
      exact ⟨by rw [HE.out]; rfl, q, HI.out.1⟩
theorem contains2_any (gA n c : Nat) (ps : List Nat) (pr : Nat → Bool) (b : Bool) (w : World) (hl : ps.length = n) (hn9 : n ≤ 1000000)
    (hc : ∀ i p, ps[i]? = some p → w.cell? ⟨gA, i, none⟩ = some (ptr p)) (hf : ∀ i p q, ps[i]? = some p → Calls Tryz.prog 51 #[ptr p] (w.drewN q) fun e w' => e = .returned (.bool (pr i)) ∧ ∃ q', w' = w.drewN q') (hb : b = true ↔ ∃ i, i < n ∧ pr i = true) :
    Calls Tryz.prog 50 #[.slice (some ⟨gA, 0, none⟩) n c, .func (.func 51) #[] #[]] w fun e w' => e = .returned (.bool b) ∧ ∃ q, w' = w.drewN q := by
  obtain ⟨r, hr, hrb⟩ : ∃ r, IdxR pr n r ∧ ((b = true ∧ 0 ≤ r) ∨ (b = false ∧ r = -1)) := by
    cases b with
    | true =>
      obtain ⟨i, hi, hp⟩ := hb.1 rfl
      have : ∃ k, k < n ∧ pr k = true ∧ ∀ j, j < k → pr j = false := by
        induction i using Nat.strongRecOn with
        | _ i ih =>
          by_cases h : ∃ j, j < i ∧ pr j = true
          · obtain ⟨j, h1, h2⟩ := h
            exact ih j h1 (by omega) h2
          · exact ⟨i, hi, hp, fun j hj => by
              cases e : pr j with
              | false => rfl
              | true => exact absurd ⟨j, hj, e⟩ h⟩
      obtain ⟨k, h1, h2, h3⟩ := this
      exact ⟨k, .inl ⟨k, h1, h2, h3, rfl⟩, .inl ⟨rfl, by omega⟩⟩
    | false =>
      refine ⟨-1, .inr ⟨fun k hk => ?_, rfl⟩, .inr ⟨rfl, rfl⟩⟩
      cases e : pr k with
      | false => rfl
      | true => have := hb.2 ⟨k, hk, e⟩; cases this
  have H1 := As.mk (index2_any gA n c ps pr r w hl hn9 hc hf hr)
  have HB := As.mk hrb
  clear hl hc hf hb hr hrb
  rcases HB.out with ⟨rfl, h0⟩ | ⟨rfl, rfl⟩
  · have d : decide (r ≥ 0) = true := by simpa using h0
    have d2 : decide (0 ≤ r) = true := by simpa using h0
    go_enter Tryz.func50, Tryz.ntmps50
    go_wp2_with (go_at_call 45; refine H1.out.mono ?_; rintro e w1 ⟨rfl, q, hq⟩; have HQ := As.mk hq; clear hq H1)
    go_ret
    exact ⟨rfl, q, HQ.out⟩
  · go_enter Tryz.func50, Tryz.ntmps50
    go_wp2_with (go_at_call 45; refine H1.out.mono ?_; rintro e w1 ⟨rfl, q, hq⟩; have HQ := As.mk hq; clear hq H1)
    go_ret
    exact ⟨rfl, q, HQ.out⟩

set_option maxHeartbeats 4000000 in
set_option maxRecDepth 100000 in
theorem index_any (A : Option Addr) (n c : Nat) (xs : List Int) (x r : Int) (w : World) (hl : xs.length = n) (hn9 : n ≤ 1000000) (hrd : Rd w A (iv .i64 xs)) (hr : IdxR (fun i => decide (x = xs.getD i 0)) n r) :
    Calls Tryz.prog 47 #[.slice A n c, .int .i64 x] w fun e w' => e = .returned (.int .i64 r) ∧ w' = w := by
  have HC := As.mk hrd
  have HR := As.mk hr
  have HL := As.mk hl
  clear hrd hr hl
  go_enter Tryz.func47, Tryz.ntmps47
  go_wp2
  go_loop [8] (fun i => ∃ (k : Nat), i = .int .i64 (k : Int) ∧ k ≤ n ∧ As (∀ j, j < k → decide (x = xs.getD j 0) = false)) (fun i => n - (intOf i).toNat)
  case atStart => exact ⟨0, rfl, by omega, ⟨fun j hj => by omega⟩⟩
  case round =>
    obtain ⟨k, rfl, hk, HI⟩ := hrel
    by_cases hlt : k < n
    · have i1 : (k : Int) < (n : Int) := by omega
      have hx : k < xs.length := by rw [HL.out]; exact hlt
      obtain ⟨b, o, rfl, c0⟩ := int_at HC.out k hx
      obtain ⟨y, hy⟩ : ∃ y, xs[k] = y := ⟨_, rfl⟩
      have HY : As (xs.getD k 0 = y) := ⟨by rw [← hy]; simp [List.getD, hx]⟩
      rw [hy] at c0
      clear hy hx
      by_cases e : x = y
      · subst e
        have HE := As.mk (HR.out.hit hlt (by rw [HY.out]; simp) HI.out)
        go_wp2
        go_ret
        exact ⟨by rw [HE.out]; rfl, rfl⟩
      · have be : (x == y) = false := by simpa using e
        have HN := As.mk e
        clear e
        go_wp2
        go_round
        case rel => exact ⟨k + 1, by go_num, by omega, ⟨fun j hj => by
          by_cases e : j = k
          · rw [e, HY.out]; simpa using HN.out
          · exact HI.out j (by omega)⟩⟩
        case measure => simp [intOf]; omega
    · have i1 : ¬ (k : Int) < (n : Int) := by omega
      have HE := As.mk (HR.out.miss (fun j hj => HI.out j (by omega)))
      go_wp2
      go_ret
      exact ⟨by rw [HE.out]; rfl, rfl⟩

set_option maxHeartbeats 4000000 in
set_option maxRecDepth 100000 in
theorem hear1_any (p r : Nat) (an : Bool) (cx rc : Int) (w : World) (q : Nat) (h8 : w.cell? ⟨p, 8, none⟩ = some (.bool an)) (h1 : w.cell? ⟨p, 1, none⟩ = some (.int .i64 cx)) (h0 : w.cell? ⟨r, 0, none⟩ = some (.int .i64 rc)) :
    Calls Tryz.prog 46 #[.pointer (some ⟨p, 0, none⟩), .pointer (some ⟨r, 0, none⟩)] (w.drewN q) fun e w' => e = .returned (.bool (!an && decide (cx = rc))) ∧ ∃ q', w' = w.drewN q' := by
  obtain ⟨W, hW⟩ : ∃ W, W = w.drewN q := ⟨_, rfl⟩
  have g8 : W.cell? ⟨p, 8, none⟩ = some (.bool an) := by rw [hW]; exact h8
  have g1 : W.cell? ⟨p, 1, none⟩ = some (.int .i64 cx) := by rw [hW]; exact h1
  have g0 : W.cell? ⟨r, 0, none⟩ = some (.int .i64 rc) := by rw [hW]; exact h0
  have HD : As (∀ n, W.drewN n = w.drewN (q + n)) := ⟨fun n => by rw [hW, World.drewN_drewN]⟩
  rw [← hW]
  obtain ⟨b, hb⟩ : ∃ b, (cx == rc) = b := ⟨_, rfl⟩
  have HB : As (decide (cx = rc) = b) := ⟨by rw [← hb]; rfl⟩
  rw [HB.out]
  clear hW h8 h1 h0
  cases an
  · go_enter Tryz.func46, Tryz.ntmps46
    go_wp2_with fail
    go_quiet (fail)
    go_wp2_with fail
    go_ret
    exact ⟨rfl, q + nq, HD.out nq⟩
  · go_enter Tryz.func46, Tryz.ntmps46
    go_wp2_with fail
    go_quiet (fail)
    go_wp2_with fail
    go_ret
    exact ⟨rfl, q + nq, HD.out nq⟩
theorem hear2_any (p : Nat) (an : Bool) (w : World) (q : Nat) (h8 : w.cell? ⟨p, 8, none⟩ = some (.bool an)) :
    Calls Tryz.prog 51 #[.pointer (some ⟨p, 0, none⟩)] (w.drewN q) fun e w' => e = .returned (.bool (!an)) ∧ ∃ q', w' = w.drewN q' := by
  have g8 : (w.drewN q).cell? ⟨p, 8, none⟩ = some (.bool an) := h8
  obtain ⟨W, hW⟩ : ∃ W, W = w.drewN q := ⟨_, rfl⟩
  rw [← hW] at g8 ⊢
  have HD := As.mk hW
  clear hW h8
  go_enter Tryz.func51, Tryz.ntmps51
  go_wp2
  go_ret
  exact ⟨rfl, q, HD.out⟩
end Go.Proofs.YtdiljpdohmeceaaGreat.co
