/- A script's steps in memory; heavy answers. -/
import Derived.Test.YtiabdeciadfiiaaManX
namespace Go.Proofs.Ytiabdeciadfiiaa.haystacklaw21
open Go.RowKit H O opk man mref

/-- a step of a script -/
structure Stp where
  kind : Int
  n : Int
  shard : Int
  off : Int
  lists : List (List Int)
  nodes : List Int
  b : List Int
/-- a step lies from offset o of block b on -/
structure StpAt (w : World) (b o : Nat) (s : Stp) : Prop where
  nums : w.cell? ⟨b, o, none⟩ = some (.int .i64 s.kind) ∧ w.cell? ⟨b, o + 1, none⟩ = some (.int .i64 s.n) ∧ w.cell? ⟨b, o + 2, none⟩ = some (.int .i64 s.shard) ∧ w.cell? ⟨b, o + 3, none⟩ = some (.int .i64 s.off)
  lists : ∃ A c, w.cell? ⟨b, o + 4, none⟩ = some (.slice A s.lists.length c) ∧ Ri [] w A s.lists
  nodes : ∃ A c, w.cell? ⟨b, o + 5, none⟩ = some (.slice A s.nodes.length c) ∧ Rd w A (iv .i64 s.nodes) ∧ (A = none → c = 0)
  b : ∃ A c, w.cell? ⟨b, o + 6, none⟩ = some (.slice A s.b.length c) ∧ Rd w A (iv .u8 s.b) ∧ s.b.length ≤ c ∧ c ≤ 9223372036854775807 ∧ (A = none → c = 0)
structure StpOk (s : Stp) : Prop where
  lists : s.lists.length ≤ 9223372036854775807 ∧ ∀ x ∈ s.lists, x.length ≤ 9223372036854775807
  nodes : s.nodes.length ≤ 9223372036854775807
  b : s.b.length ≤ 140737488351232 ∧ Wf s.b
  nums : (-9223372036854775808 ≤ s.kind ∧ s.kind ≤ 9223372036854775807) ∧ (-9223372036854775808 ≤ s.n ∧ s.n ≤ 9223372036854775807) ∧ (-9223372036854775808 ≤ s.shard ∧ s.shard ≤ 9223372036854775807) ∧ (-9223372036854775808 ≤ s.off ∧ s.off ≤ 9223372036854775807)
/-- a slice of steps -/
def SRd (w : World) (A : Option Addr) (l : List Stp) : Prop := ∀ i (_ : i < l.length), ∃ b o, A = some ⟨b, o, none⟩ ∧ StpAt w b (o + i * 7) l[i]
theorem StpAt.kp {w w1 : World} {b o : Nat} {s : Stp} (h : StpAt w b o s) (k : Kp [] w w1) : StpAt w1 b o s := by
  obtain ⟨a1, a2, a3, a4⟩ := h.nums
  obtain ⟨A, c, h1, h2⟩ := h.lists
  obtain ⟨B, d, h3, h4, h5⟩ := h.nodes
  obtain ⟨C, e, h6, h7, h8⟩ := h.b
  exact ⟨⟨k.cell a1 (by simp), k.cell a2 (by simp), k.cell a3 (by simp), k.cell a4 (by simp)⟩, ⟨A, c, k.cell h1 (by simp), h2.kp k (by simp) (by simp)⟩, ⟨B, d, k.cell h3 (by simp), k.rd_new h4 (by simp), h5⟩, ⟨C, e, k.cell h6 (by simp), k.rd_new h7 (by simp), h8⟩⟩

def SomeI (v : Value) : Prop := ∃ t : Int, v = .int .i64 t
theorem SomeI.mk (t : Int) : SomeI (.int .i64 t) := ⟨t, rfl⟩
def HeavyPost (w : World) (e : Ending) (w' : World) : Prop := (∃ b : Bool, e = .returned (.bool b)) ∧ ∃ q, w' = w.drewN q
theorem HeavyPost.mk (w : World) (b : Bool) (q : Nat) : HeavyPost w (.returned (.bool b)) (w.drewN q) := ⟨⟨b, rfl⟩, q, rfl⟩
set_option maxHeartbeats 8000000 in
set_option maxRecDepth 100000 in
theorem heavy_any (A : Option Addr) (n c : Nat) (l : List Stp) (w : World) (hn : l.length = n) (hr : SRd w A l) (hok : ∀ s ∈ l, StpOk s) (hb : n ≤ 9223372036854775807) :
    Calls Try.prog 24 #[.slice A n c] w (HeavyPost w) := by
  have HN := As.mk hn
  have HR := As.mk hr
  have HOK := As.mk hok
  clear hn hr hok
  go_enter Try.func24, Try.ntmps24
  go_wp2
  go_loopw [3, 4] (fun s i wr => SomeI s ∧ ∃ (k : Nat), i = .int .i64 (k : Int) ∧ k ≤ n ∧ k ≤ 100 ∧ ∃ q, wr = w.drewN q) (fun _ i _ => n - (intOf i).toNat)
  case atStart => exact ⟨SomeI.mk _, 0, rfl, by omega, by omega, 0, rfl⟩
  case round =>
    obtain ⟨⟨t, rfl⟩, k, rfl, hk, hk9, q, rfl⟩ := hrel
    by_cases hlt : k < n
    · by_cases h100 : k < 100
      · have hlt' : k < l.length := by rw [HN.out]; exact hlt
        obtain ⟨b0, o0, rfl, hst⟩ := HR.out k hlt'
        have hokk := HOK.out _ (List.getElem_mem hlt')
        obtain ⟨s, hs⟩ : ∃ s, s = l[k] := ⟨_, rfl⟩
        rw [← hs] at hst hokk
        obtain ⟨AL, cL, d4, hri⟩ := hst.lists
        obtain ⟨AN, cN, d5, -, -⟩ := hst.nodes
        obtain ⟨AB, cB, d6, -, -⟩ := hst.b
        obtain ⟨nL, hnL⟩ : ∃ m, s.lists.length = m := ⟨_, rfl⟩
        obtain ⟨nN, hnN⟩ : ∃ m, s.nodes.length = m := ⟨_, rfl⟩
        obtain ⟨nB, hnB⟩ : ∃ m, s.b.length = m := ⟨_, rfl⟩
        have e1 : nL ≤ 9223372036854775807 := by rw [← hnL]; exact hokk.lists.1
        have e2 : nN ≤ 9223372036854775807 := by rw [← hnN]; exact hokk.nodes
        have e3 : nB ≤ 140737488351232 := by rw [← hnB]; exact hokk.b.1
        rw [hnL] at d4
        rw [hnN] at d5
        rw [hnB] at d6
        have HRI := As.mk hri
        have HNL := As.mk hnL
        have HOL := As.mk hokk.lists.2
        have i0 : (0 : Int) ≤ (k : Int) := by omega
        have i1 : (k : Int) < (n : Int) := by omega
        clear hri hst hnL hnN hnB hokk hs hlt'
        go_upto_region 5 with fail
        go_quiet (fail)
        go_wp2
        go_loop [3, 5] (fun s i => SomeI s ∧ ∃ (j : Nat), i = .int .i64 (j : Int) ∧ j ≤ nL) (fun _ i => nL - (intOf i).toNat)
        case atStart => exact ⟨SomeI.mk _, 0, rfl, by omega⟩
        case round =>
          obtain ⟨⟨t2, rfl⟩, j, rfl, hj⟩ := hrel
          by_cases hlj : j < nL
          · have hlj' : j < s.lists.length := by rw [HNL.out]; exact hlj
            obtain ⟨a, Aj, cj, rfl, -, d7, -, -, -⟩ := HRI.out j hlj'
            obtain ⟨m, hm⟩ : ∃ m, s.lists[j].length = m := ⟨_, rfl⟩
            have e4 : m ≤ 9223372036854775807 := by rw [← hm]; exact HOL.out _ (List.getElem_mem hlj')
            rw [hm] at d7
            have j0 : (0 : Int) ≤ (j : Int) := by omega
            have j1 : (j : Int) < (nL : Int) := by omega
            clear hm hlj'
            go_wp2
            go_round
            case rel => exact ⟨SomeI.mk _, j + 1, by go_num, by omega⟩
            case measure => simp [intOf]; omega
          · obtain rfl : j = nL := by omega
            by_cases h5 : 5000 < t2
            · go_wp2
              go_ret
              first | exact HeavyPost.mk _ _ _ | (rw [World.drewN_drewN]; exact HeavyPost.mk _ _ _)
            · go_wp2
              go_roundw
              case rel => exact ⟨SomeI.mk _, k + 1, by go_num, by omega, by omega, by first | exact ⟨_, rfl⟩ | exact ⟨_, World.drewN_drewN ..⟩⟩
              case measure => simp [intOf]; omega
      · obtain rfl : k = 100 := by omega
        go_wp2
        go_ret
        exact HeavyPost.mk _ _ _
    · obtain rfl : k = n := by omega
      go_wp2
      go_ret
      exact HeavyPost.mk _ _ _
end Go.Proofs.Ytiabdeciadfiiaa.haystacklaw21
