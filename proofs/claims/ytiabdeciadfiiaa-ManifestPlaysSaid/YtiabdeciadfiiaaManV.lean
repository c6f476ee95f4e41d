/- haystacklaw21: maps of two equal maps, known. -/
import Derived.Test.YtiabdeciadfiiaaManU
import Derived.Test.YtiabdeciadfiiaaBase
namespace Go.Proofs.Ytiabdeciadfiiaa.haystacklaw21
open Go.RowKit H O opk man

set_option maxHeartbeats 4000000 in
theorem maps_any (v : Int) (A B : Option Addr) (n c d : Nat) (l : List (List Int)) (w : World) (hn : l.length = n) (hr : Ri [] w A l) (hs : Ri [] w B l) (hb : n ≤ 100000) (hm : ∀ x ∈ l, x.length ≤ 100000) :
    Calls Try.prog 20 #[.agg #[.int .i64 v, .slice A n c], .agg #[.int .i64 v, .slice B n d]] w fun e w' => e = .returned (.bool true) ∧ Kp [] w w' := by
  have HN := As.mk hn
  have HR := As.mk hr
  have HS := As.mk hs
  have HM := As.mk hm
  have kA : Kp [] w (w.alloc (.cells #[.int .i64 v, .slice A n c] 36)) := (Kp.refl [] w).alloc _
  have kB : Kp [] (w.alloc (.cells #[.int .i64 v, .slice A n c] 36)) ((w.alloc (.cells #[.int .i64 v, .slice A n c] 36)).alloc (.cells #[.int .i64 v, .slice B n d] 44)) := (Kp.refl [] _).alloc _
  have HK0 := As.mk (kA.trans kB (by simp))
  have HA : As (man.MapAt ((w.alloc (.cells #[.int .i64 v, .slice A n c] 36)).alloc (.cells #[.int .i64 v, .slice B n d] 44)) w.heap.size v (.slice A n c)) := ⟨(man.MapAt.new w _ _).kp kB (by simp)⟩
  have HB : As (mref.MapAt ((w.alloc (.cells #[.int .i64 v, .slice A n c] 36)).alloc (.cells #[.int .i64 v, .slice B n d] 44)) (w.heap.size + 1) v (.slice B n d)) := ⟨by
    have := mref.MapAt.new (w.alloc (.cells #[.int .i64 v, .slice A n c] 36)) v (.slice B n d)
    rwa [World.size_alloc] at this⟩
  obtain ⟨p0, p1⟩ := HA.out.cells
  obtain ⟨q0, q1⟩ := HB.out.cells
  have bv : (v != v) = false := by simp
  have bn : ((n : Int) != (n : Int)) = false := by simp
  clear hn hr hs hm kA kB
  go_enter Try.func20, Try.ntmps20
  go_wp2
  go_loopw [5] (fun i wr => ∃ k : Nat, i = .int .i64 (k : Int) ∧ k ≤ n ∧ As (Kp [] w wr) ∧ As (man.MapAt wr w.heap.size v (.slice A n c)) ∧ As (mref.MapAt wr (w.heap.size + 1) v (.slice B n d))) (fun i _ => n - (intOf i).toNat)
  case atStart => exact ⟨0, rfl, by omega, HK0, HA, HB⟩
  case round =>
    clear p0 p1 q0 q1
    obtain ⟨k, rfl, hk, HK, HPA, HPB⟩ := hrel
    obtain ⟨p0, p1⟩ := HPA.out.cells
    obtain ⟨q0, q1⟩ := HPB.out.cells
    by_cases hlt : k < n
    · have hlx : k < l.length := by rw [HN.out]; exact hlt
      obtain ⟨a, Aj, cj, rfl, -, d0, -, -, rj⟩ := HR.out k hlx
      obtain ⟨b, Bj, dj, rfl, -, e0, -, -, sj⟩ := HS.out k hlx
      have d1 := HK.out.cell d0 (by simp)
      have e1 := HK.out.cell e0 (by simp)
      have hki : (k : Int) < (n : Int) := by omega
      obtain ⟨x, hx⟩ : ∃ x, x = l[k] := ⟨_, rfl⟩
      obtain ⟨nx, hnx⟩ : ∃ nx, x.length = nx := ⟨_, rfl⟩
      rw [← hx, hnx] at d1 e1
      have hxl : x.length ≤ 100000 := by rw [hx]; exact HM.out _ (List.getElem_mem _)
      have HSM : As (∀ wX, Kp [] wr wX → Calls Try.prog 15 #[.slice Aj nx cj, .slice Bj nx dj] wX fun e w' => e = .returned (.bool true) ∧ Kp [] wr w') := ⟨fun wX k9 => by
        have kk := HK.out.trans k9 (by simp)
        refine (ints_any Aj Bj nx cj nx dj x x wX hnx hnx (kk.rd_new (by rw [hx]; exact rj.rd) (by simp)) (kk.rd_new (by rw [hx]; exact sj.rd) (by simp)) (by omega)).mono ?_
        rintro e w' ⟨rfl, n9, rfl⟩
        exact ⟨by rw [decide_eq_true rfl], k9.drewN _⟩⟩
      have HD1 := As.mk d1
      have HE1 := As.mk e1
      clear d0 e0 rj sj hx hnx hxl hlx
      go_wp2
      go_region_held3 (fun w' => w'.cell? ⟨w.heap.size, 1, none⟩ = some (.slice (some a) n c) ∧ w'.cell? ⟨w.heap.size + 1, 1, none⟩ = some (.slice (some b) n d) ∧ w'.cell? (a.add k) = some (.slice Aj nx cj) ∧ w'.cell? (b.add k) = some (.slice Bj nx dj)) (first | exact ⟨p21, q21, d2, e2⟩ | exact ⟨p1, q1, d1, e1⟩) (first | (go_at_call 15; refine (HSM.out _ (by first | exact Kp.refl [] _ | exact (Kp.refl [] _).drew | exact (Kp.refl [] _).drewN _)).mono ?_; rintro e w2 ⟨rfl, k2⟩; have HK2 := As.mk k2; have p21 := k2.cell HPA.out.cells.2 (by simp); have q21 := k2.cell HPB.out.cells.2 (by simp); have d2 := k2.cell HD1.out (by simp); have e2 := k2.cell HE1.out (by simp); clear k2))
      go_wp2
      go_roundw
      case rel => exact ⟨k + 1, by go_num, by omega, ⟨HK.out.trans HK2.out (by simp)⟩, ⟨HPA.out.kp HK2.out (by simp)⟩, ⟨HPB.out.kp HK2.out (by simp)⟩⟩
      case measure => simp [intOf]; omega
    · obtain rfl : k = n := by omega
      go_wp2
      go_ret
      exact ⟨rfl, HK.out⟩
end Go.Proofs.Ytiabdeciadfiiaa.haystacklaw21
