/- haystacklaw8.rows: two lists of rows. -/
import Derived.Test.YtlknlpiiogmfbaaSame8
import Derived.Test.YtlknlpiiogmfbaaProg
import Derived.Deep.RegionHeld3
namespace Go.Proofs.Ytlknlpiiogmfbaa.haystacklaw8
open Go.RowKit H

theorem take_eq_step' {α : Type} {xs ys : List α} {k : Nat} (h : xs.take k = ys.take k) (hx : k < xs.length) (hy : k < ys.length) (he : xs[k] = ys[k]) : xs.take (k + 1) = ys.take (k + 1) := by
  rw [List.take_succ_eq_append_getElem hx, List.take_succ_eq_append_getElem hy, h, he]

set_option maxHeartbeats 4000000 in
theorem rows_any (A0 A1 : Option Addr) (n c0 m c1 : Nat) (l r : List (List Int)) (w : World) (l0 : l.length = n) (l1 : r.length = m) (h0 : Rs [] w A0 l) (h1 : Rs [] w A1 r) (hm : n ≤ 4611686018427387904) (hx : ∀ x ∈ l, x.length ≤ 4611686018427387904) :
    Calls Try.prog 20 #[.slice A0 n c0, .slice A1 m c1] w fun e w' => e = .returned (.bool (decide (l = r))) ∧ Kp [] w w' := by
  by_cases hnm : n = m
  · subst hnm
    have HL := As.mk l0
    have HM := As.mk l1
    have H0 := As.mk h0
    have H1 := As.mk h1
    have HX := As.mk hx
    clear l0 l1 h0 h1 hx
    go_enter Try.func20, Try.ntmps20
    go_wp2
    go_loopw [5] (fun i wr => ∃ k : Nat, i = .int .i64 (k : Int) ∧ k ≤ n ∧ As (l.take k = r.take k) ∧ As (Kp [] w wr)) (fun i _ => n - (intOf i).toNat)
    case atStart => exact ⟨0, rfl, by omega, ⟨rfl⟩, ⟨Kp.refl _ _⟩⟩
    case round =>
      obtain ⟨k, rfl, hk, HE, HK⟩ := hrel
      by_cases hlt : k < n
      · have hlx : k < l.length := by rw [HL.out]; exact hlt
        have hrx : k < r.length := by rw [HM.out]; exact hlt
        obtain ⟨a, Aj, cj, rfl, -, d0, -, -, rj⟩ := H0.out k hlx
        obtain ⟨b, Bj, dj, rfl, -, e0, -, -, sj⟩ := H1.out k hrx
        have d1 := HK.out.cell d0 (by simp)
        have e1 := HK.out.cell e0 (by simp)
        have hki : (k : Int) < (n : Int) := by omega
        obtain ⟨x, hx⟩ : ∃ x, l[k] = x := ⟨_, rfl⟩
        obtain ⟨y, hy⟩ : ∃ y, r[k] = y := ⟨_, rfl⟩
        obtain ⟨nx, hnx⟩ : ∃ nx, x.length = nx := ⟨_, rfl⟩
        obtain ⟨ny, hny⟩ : ∃ ny, y.length = ny := ⟨_, rfl⟩
        rw [hx, hnx] at d1
        rw [hy, hny] at e1
        have hxl : x.length ≤ 4611686018427387904 := HX.out x (by rw [← hx]; exact List.getElem_mem hlx)
        have HSM : As (∀ wX, Kp [] w wX → Calls Try.prog 17 #[.slice Aj nx cj, .slice Bj ny dj] wX fun e w' => e = .returned (.bool (decide (x = y))) ∧ Kp [] w w') := ⟨fun wX k9 => by
          refine (same_any Aj Bj nx cj ny dj x y wX hnx hny (k9.rd_new (by rw [← hx]; exact rj.rd) (by simp)) (k9.rd_new (by rw [← hy]; exact sj.rd) (by simp)) (by omega)).mono ?_
          rintro e w' ⟨rfl, n9, rfl⟩
          exact ⟨rfl, k9.drewN _⟩⟩
        have HD0 : As ((w.cell? (a.add k)) = some (.slice Aj nx cj)) := ⟨by rw [d0, hx, hnx]⟩
        have HE0 : As ((w.cell? (b.add k)) = some (.slice Bj ny dj)) := ⟨by rw [e0, hy, hny]⟩
        by_cases hxy : x = y
        · have hdx : decide (x = y) = true := decide_eq_true hxy
          rw [hdx] at HSM
          have HT := As.mk (take_eq_step' HE.out hlx hrx (by rw [hx, hy]; exact hxy))
          have HSM1 := As.mk (HSM.out wr.drew HK.out.drew)
          clear d0 e0 rj sj hx hy hnx hny hxl hxy hdx HSM hlx hrx
          go_wp2
          go_region_held3 (fun w' => w'.cell? (a.add k) = some (.slice Aj nx cj) ∧ w'.cell? (b.add k) = some (.slice Bj ny dj)) (first | exact ⟨d2, e2⟩ | exact ⟨d1, e1⟩) (first | (go_at_call 17; refine HSM1.out.mono ?_; rintro e w2 ⟨rfl, k2⟩; have HK2 := As.mk k2; have d2 := k2.cell HD0.out (by simp); have e2 := k2.cell HE0.out (by simp); clear k2))
          go_wp2
          go_roundw
          case rel => exact ⟨k + 1, by go_num, by omega, HT, HK2⟩
          case measure => simp [intOf]; omega
        · have hdx : decide (x = y) = false := decide_eq_false hxy
          rw [hdx] at HSM
          have HNE : As (decide (l = r) = false) := ⟨decide_eq_false (fun h => hxy (by rw [← hx, ← hy]; simp [h]))⟩
          have HSM1 := As.mk (HSM.out wr.drew HK.out.drew)
          clear d0 e0 rj sj hx hy hnx hny hxl hxy hdx HSM hlx hrx
          go_wp2
          go_region_held3 (fun w' => w'.cell? (a.add k) = some (.slice Aj nx cj) ∧ w'.cell? (b.add k) = some (.slice Bj ny dj)) (first | exact ⟨d2, e2⟩ | exact ⟨d1, e1⟩) (first | (go_at_call 17; refine HSM1.out.mono ?_; rintro e w2 ⟨rfl, k2⟩; have HK2 := As.mk k2; have d2 := k2.cell HD0.out (by simp); have e2 := k2.cell HE0.out (by simp); clear k2))
          go_wp2
          go_ret
          exact ⟨by rw [HNE.out]; rfl, HK2.out⟩
      · obtain rfl : k = n := by omega
        have e : l = r := by
          have h := HE.out
          rwa [List.take_of_length_le (by rw [HL.out]; exact Nat.le_refl _), List.take_of_length_le (by rw [HM.out]; exact Nat.le_refl _)] at h
        have HEQ : As (decide (l = r) = true) := ⟨decide_eq_true e⟩
        clear e
        go_wp2
        go_ret
        exact ⟨by rw [HEQ.out]; rfl, HK.out⟩
  · have HNE : As (decide (l = r) = false) := ⟨decide_eq_false (fun h => hnm (by rw [← l0, ← l1, h]))⟩
    have hnb : ((n : Int) != (m : Int)) = true := by simp; omega
    clear l0 l1 h0 h1 hx
    go_enter Try.func20, Try.ntmps20
    go_wp2
    go_ret
    exact ⟨by rw [HNE.out]; rfl, Kp.refl _ _⟩
end Go.Proofs.Ytlknlpiiogmfbaa.haystacklaw8
