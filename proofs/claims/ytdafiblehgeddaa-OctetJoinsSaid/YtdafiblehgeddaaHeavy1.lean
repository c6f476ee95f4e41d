/- haystacklaw1.heavyRows: are rows more than is looked at? -/
import Derived.Test.YtdafiblehgeddaaHeap
import Derived.Test.YtdafiblehgeddaaProg
namespace Go.Proofs.Ytdafiblehgeddaa.haystacklaw1
open Go.RowKit H

def heavyF : Nat → List (List Int) → Bool
  | _, [] => false
  | n, x :: r => if 4000 < x.length then true else if 4000 < n + 3 + x.length then true else heavyF (n + 3 + x.length) r
def heavy (l : List (List Int)) : Bool := heavyF 0 l

theorem heavyF_le : ∀ (l : List (List Int)) (n : Nat), n ≤ 4000 → heavyF n l = false → n + 3 * l.length + l.flatten.length ≤ 4000 ∧ ∀ x ∈ l, x.length ≤ 4000
  | [], n, hn, _ => by simpa using hn
  | x :: r, n, hn, h => by
    unfold heavyF at h
    split at h
    · cases h
    · split at h
      · cases h
      · obtain ⟨h1, h2⟩ := heavyF_le r _ (by omega) h
        refine ⟨by simp only [List.length_cons, List.flatten_cons, List.length_append]; omega, ?_⟩
        intro y hy
        rcases List.mem_cons.1 hy with rfl | hy
        · omega
        · exact h2 y hy
theorem heavy_le {l : List (List Int)} (h : heavy l = false) : 3 * l.length + l.flatten.length ≤ 4000 ∧ ∀ x ∈ l, x.length ≤ 4000 := by
  have := heavyF_le l 0 (by omega) h
  simpa using this

theorem heavyF_drop {l : List (List Int)} {n k : Nat} (hk : k < l.length) : heavyF n (l.drop k) = if 4000 < l[k].length then true else if 4000 < n + 3 + l[k].length then true else heavyF (n + 3 + l[k].length) (l.drop (k + 1)) := by
  rw [List.drop_eq_getElem_cons hk, heavyF]

theorem ret_bool' {a b : Bool} (h : a = b) : Ending.returned (.bool a) = .returned (.bool b) := by rw [h]

set_option maxHeartbeats 2000000 in
theorem heavy_any (A : Option Addr) (n c : Nat) (l : List (List Int)) (w : World) (S : List Nat) (hn : l.length = n) (h0 : Rs S w A l) (hm : n ≤ 4611686018427387904) :
    Calls Try.prog 21 #[.slice A n c] w fun e w' => e = .returned (.bool (heavy l)) ∧ ∃ n, w' = w.drewN n := by
  subst hn
  have H0 := As.mk h0
  clear h0
  go_enter Try.func21, Try.ntmps21
  go_wp2
  go_loopw [3, 4] (fun s i wr => ∃ k t : Nat, i = .int .i64 k ∧ s = .int .i64 t ∧ k ≤ l.length ∧ t ≤ 4000 ∧ As (heavy l = heavyF t (l.drop k)) ∧ ∃ n, wr = w.drewN n) (fun _ i _ => l.length - (intOf i).toNat)
  case atStart => exact ⟨0, 0, rfl, rfl, by omega, by omega, ⟨rfl⟩, 0, rfl⟩
  case round =>
    obtain ⟨k, t, rfl, rfl, hk, ht, HT, n, rfl⟩ := hrel
    by_cases hlt : k < l.length
    · obtain ⟨a, Aj, cj, rfl, _, d0, _, _, _⟩ := H0.out k hlt
      have HD := As.mk (heavyF_drop (n := t) hlt)
      by_cases g1 : 4000 < l[k].length
      · have HR : As (heavy l = true) := ⟨by rw [HT.out, HD.out, if_pos g1]⟩
        have g1b : (4000 : Int) < (l[k].length : Int) := by omega
        go_wp2
        go_ret
        exact ⟨ret_bool' HR.out.symm, by first | exact ⟨_, rfl⟩ | exact ⟨_, World.drewN_drewN ..⟩⟩
      · by_cases g2 : 4000 < t + 3 + l[k].length
        · have HR : As (heavy l = true) := ⟨by rw [HT.out, HD.out, if_neg g1, if_pos g2]⟩
          go_wp2
          go_ret
          exact ⟨ret_bool' HR.out.symm, by first | exact ⟨_, rfl⟩ | exact ⟨_, World.drewN_drewN ..⟩⟩
        · have HR : As (heavy l = heavyF (t + 3 + l[k].length) (l.drop (k + 1))) := ⟨by rw [HT.out, HD.out, if_neg g1, if_neg g2]⟩
          go_wp2
          go_roundw
          case rel => exact ⟨k + 1, t + 3 + l[k].length, by go_num, by go_num, by omega, by omega, HR, _, rfl⟩
          case measure => simp [intOf]; omega
    · have HR : As (heavy l = false) := ⟨by rw [HT.out, List.drop_of_length_le (by omega)]; rfl⟩
      go_wp2
      go_ret
      exact ⟨ret_bool' HR.out.symm, by first | exact ⟨_, rfl⟩ | exact ⟨_, World.drewN_drewN ..⟩⟩

end Go.Proofs.Ytdafiblehgeddaa.haystacklaw1
