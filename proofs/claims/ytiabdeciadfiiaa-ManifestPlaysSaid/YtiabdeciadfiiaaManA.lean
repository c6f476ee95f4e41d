/- Package manifest: isNodes, nodes, shards, Found, Move. -/
import Derived.Test.YtiabdeciadfiiaaManP
import Derived.Test.YtiabdeciadfiiaaGrid
import Derived.Test.YtiabdeciadfiiaaBase
import Derived.Deep.RegionHeld3
namespace Go.Proofs.Ytiabdeciadfiiaa.man
open Go.RowKit H O opk

theorem getD_get {xs : List Int} {k : Nat} (h : k < xs.length) : xs.getD k 0 = xs[k] := by rw [List.getD_eq_getElem?_getD, List.getElem?_eq_getElem h]; rfl
theorem ret_bool {a b : Bool} (h : a = b) : Ending.returned (.bool a) = .returned (.bool b) := by rw [h]
/-- a number of a slice, its address written out -/
theorem int_at {w : World} {A : Option Addr} {xs : List Int} (h : Rd w A (iv .i64 xs)) (i : Nat) (hi : i < xs.length) : ∃ b o, A = some ⟨b, o, none⟩ ∧ w.cell? ⟨b, o + i, none⟩ = some (.int .i64 xs[i]) := by
  obtain ⟨a, ha, c0⟩ := h.int i hi
  obtain ⟨z, hz, cz⟩ := h.int 0 (by omega)
  rw [ha] at hz
  cases hz
  obtain ⟨b, o, s⟩ := a
  obtain rfl : s = none := by simpa [Addr.add] using World.cell?_spot cz
  rw [Go.WideShapes.add_plain] at c0
  exact ⟨b, o, ha, c0⟩
theorem grp_no {xs : List Int} {k : Nat} (hk : k < xs.length) (h : ¬ grpAt xs k) : grp xs = false := by
  rw [grp, decide_eq_false_iff_not]
  intro h1
  exact h (h1.1 k hk)

set_option maxHeartbeats 2000000 in
theorem isNodes_any (A : Option Addr) (n c : Nat) (xs : List Int) (w : World) (hn : xs.length = n) (h0 : Rd w A (iv .i64 xs)) (hb : n ≤ 9223372036854775807) :
    Calls Try.prog 38 #[.slice A n c] w fun e w' => e = .returned (.bool (grp xs)) ∧ w' = w := by
  have H0 := As.mk h0
  have HN := As.mk hn
  clear h0 hn
  go_enter Try.func38, Try.ntmps38
  go_wp2
  go_loop [7] (fun i => ∃ k : Nat, i = .int .i64 (k : Int) ∧ k ≤ n ∧ As (∀ j, j < k → grpAt xs j)) (fun i => n - (intOf i).toNat)
  case atStart => exact ⟨0, rfl, by omega, ⟨fun j hj => by omega⟩⟩
  case round =>
    obtain ⟨k, rfl, hk, HP⟩ := hrel
    by_cases hlt : k < n
    · have hlt' : k < xs.length := by rw [HN.out]; exact hlt
      obtain ⟨b0, o0, rfl, d0⟩ := int_at H0.out k hlt'
      have HD := As.mk (getD_get hlt')
      obtain ⟨y, hy⟩ : ∃ y, y = xs[k] := ⟨_, rfl⟩
      rw [← hy] at d0
      have HY : As (xs.getD k 0 = y) := ⟨by rw [HD.out, hy]⟩
      have HL := As.mk hlt'
      clear hy HD
      by_cases h1 : y < 0
      · have HF : As (grp xs = false) := ⟨grp_no hlt' (by unfold grpAt; rw [HY.out]; omega)⟩
        clear hlt'
        go_wp2
        go_ret
        exact ⟨ret_bool HF.out.symm, rfl⟩
      · by_cases h2 : 7 ≤ y
        · have HF : As (grp xs = false) := ⟨grp_no hlt' (by unfold grpAt; rw [HY.out]; omega)⟩
          clear hlt'
          go_wp2
          go_ret
          exact ⟨ret_bool HF.out.symm, rfl⟩
        · by_cases h3 : k = 0
          · have HPX : As (∀ j, j < k + 1 → grpAt xs j) := ⟨fun j hj => by
              obtain rfl : j = k := by omega
              unfold grpAt; rw [HY.out]; omega⟩
            have g9 : ¬ 0 < k := by omega
            clear hlt' HP h3
            go_wp2
            go_round
            case rel => exact ⟨k + 1, by go_num, by omega, HPX⟩
            case measure => simp [intOf]; omega
          · obtain ⟨j, rfl⟩ : ∃ j, k = j + 1 := ⟨k - 1, by omega⟩
            obtain ⟨b1, o1, ha', d1⟩ := int_at H0.out j (by omega)
            cases ha'
            obtain ⟨z, hz⟩ : ∃ z, z = xs[j] := ⟨_, rfl⟩
            rw [← hz] at d1
            have HZ : As (xs.getD j 0 = z) := ⟨by rw [getD_get (by omega), hz]⟩
            clear hz h3 hlt'
            by_cases h4 : y ≤ z
            · have HF : As (grp xs = false) := ⟨grp_no HL.out (by unfold grpAt; rw [HY.out]; simp only [Nat.add_sub_cancel, HZ.out]; omega)⟩
              go_wp2
              go_ret
              exact ⟨ret_bool HF.out.symm, rfl⟩
            · have HPX : As (∀ i, i < j + 1 + 1 → grpAt xs i) := ⟨fun i hi => by
                by_cases e : i = j + 1
                · subst e
                  unfold grpAt; rw [HY.out]; simp only [Nat.add_sub_cancel, HZ.out]; omega
                · exact HP.out i (by omega)⟩
              clear HP
              go_wp2
              go_round
              case rel => exact ⟨j + 1 + 1, by go_num, by omega, HPX⟩
              case measure => simp [intOf]; omega
    · obtain rfl : k = n := by omega
      by_cases h1 : 1 ≤ k
      · by_cases h2 : k ≤ 7
        · have HF : As (grp xs = true) := ⟨grp_iff.2 ⟨fun i hi => HP.out i (by rw [HN.out] at hi; exact hi), by rw [HN.out]; exact h1, by rw [HN.out]; exact h2⟩⟩
          go_wp2
          go_ret
          exact ⟨ret_bool (by rw [HF.out]; simp; omega), rfl⟩
        · have HF : As (grp xs = false) := ⟨by rw [grp, decide_eq_false_iff_not, HN.out]; omega⟩
          go_wp2
          go_ret
          exact ⟨ret_bool (by rw [HF.out]; simp; omega), rfl⟩
      · have HF : As (grp xs = false) := ⟨by rw [grp, decide_eq_false_iff_not, HN.out]; omega⟩
        go_wp2
        go_ret
        exact ⟨ret_bool HF.out.symm, rfl⟩

/-- numbers on the Writer, whose slice was there before it -/
theorem wr_nums {w wr : World} {b : Nat} {ys : List Int} (h : MW w b ys wr) (A : Option Addr) (n c : Nat) (vs : List Int) (hn : vs.length = n) (hr : Rd w A (iv .i64 vs)) (hy : ys.length ≤ 1000000) (hm : n ≤ 1000000) :
    Calls Try.prog 39 #[.pointer (some ⟨b, 0, none⟩), .slice A n c] wr fun e w' => e = .returned (.tuple #[]) ∧ MW w b (ys ++ nums vs) w' := by
  obtain ⟨g, h1, h2⟩ := h.wr
  have hS : ∀ x ∈ b :: g.toList, w.heap.size ≤ x := by
    intro x hx
    rcases List.mem_cons.1 hx with rfl | hx
    · exact h.lo
    · exact h2 x (by simpa using hx)
  refine (writer.nums_any b g ys A n c vs wr h1 hn (RdS.new hr h.kp hS) (by omega)).mono ?_
  rintro e w' ⟨rfl, g', W, A, K⟩
  exact ⟨rfl, h.next h2 W A K⟩
/-- numbers in a literal behind it -/
theorem wr_lit {w wr : World} {b : Nat} {ys : List Int} (h : MW w b ys wr) (vs : List Int) (n : Nat) (hn : vs.length = n) (hy : ys.length ≤ 1000000) (hm : n ≤ 1000000) :
    Calls Try.prog 39 #[.pointer (some ⟨b, 0, none⟩), .slice (some ⟨wr.heap.size, 0, none⟩) n n] (wr.alloc (.cells (iv .i64 vs).toArray 3)) fun e w' => e = .returned (.tuple #[]) ∧ MW w b (ys ++ nums vs) w' := by
  obtain ⟨g, h1, h2⟩ := h.wr
  have hl := h1.lt
  refine (writer.nums_any b g ys (some ⟨wr.heap.size, 0, none⟩) n n vs _ (h1.kp ((Kp.refl [] wr).alloc _) (by simp) (by simp)) hn (RdS.lit wr (iv .i64 vs) _ ?_) (by omega)).mono ?_
  · intro z hz
    rcases List.mem_cons.1 hz with rfl | hz
    · exact hl.1
    · exact hl.2 z (by simpa using hz)
  · rintro e w' ⟨rfl, g', W, A, K⟩
    exact ⟨rfl, (h.keep ((Kp.refl [] wr).alloc _)).next h2 W A K⟩

set_option maxHeartbeats 2000000 in
set_option maxRecDepth 100000 in
theorem nodes_any {w wr : World} {b : Nat} {ys : List Int} (h : MW w b ys wr) (A : Option Addr) (n c : Nat) (xs : List Int) (hn : xs.length = n) (hr : Rd w A (iv .i64 xs)) (hy : ys.length ≤ 900000) (hm : n ≤ 10000) :
    Calls Try.prog 44 #[.pointer (some ⟨b, 0, none⟩), .slice A n c] wr fun e w' => e = .returned (.tuple #[]) ∧ MW w b (ys ++ nodesB xs) w' := by
  have H1 := As.mk (mat_num h (n : Int) (by omega))
  have H2 : As (∀ w1, MW w b (ys ++ num (n : Int)) w1 → Calls Try.prog 39 #[.pointer (some ⟨b, 0, none⟩), .slice A n c] w1 fun e w' => e = .returned (.tuple #[]) ∧ MW w b (ys ++ nodesB xs) w') := ⟨fun w1 h1 => by
    have hl := num_len (n : Int)
    have := wr_nums h1 A n c xs hn hr (by rw [List.length_append]; omega) (by omega)
    rw [List.append_assoc] at this
    rw [nodesB, hn]
    exact this⟩
  clear hr hn h
  go_enter Try.func44, Try.ntmps44
  go_wp2_with (first
    | (go_at_call 39; refine H3.out.mono ?_; rintro e w2 ⟨rfl, h2⟩; have H4 := As.mk h2; clear h2 H3)
    | (go_at_call 39; refine H1.out.mono ?_; rintro e w1 ⟨rfl, h1⟩; have H3 := As.mk (H2.out w1 h1); clear h1 H1))
  go_end0
  exact ⟨rfl, H4.out⟩

set_option maxHeartbeats 4000000 in
theorem shards_any {w wr : World} {b : Nat} {ys : List Int} (h : MW w b ys wr) (A : Option Addr) (n c : Nat) (l : List (List Int)) (hn : l.length = n) (hr : Ri [] w A l) (hy : ys.length ≤ 1000) (hm : gSize l ≤ 10000) :
    Calls Try.prog 40 #[.pointer (some ⟨b, 0, none⟩), .slice A n c] wr fun e w' => e = .returned (.tuple #[]) ∧ MW w b (ys ++ gridB l) w' := by
  have H1 := As.mk (mat_num h (n : Int) (by omega))
  have HN := As.mk hn
  have HR := As.mk hr
  have HM := As.mk hm
  have hn9 : n ≤ 10000 := by have := gSize_len l; omega
  have HY := As.mk hy
  clear hr hn h hm hy
  go_enter Try.func40, Try.ntmps40
  go_wp2_with (go_at_call 39; refine H1.out.mono ?_; rintro e w1 ⟨rfl, h1⟩; have H3 := As.mk h1; clear h1 H1)
  go_loopw [13] (fun i wx => ∃ k : Nat, i = .int .i64 (k : Int) ∧ k ≤ n ∧ As (MW w b (ys ++ (num (n : Int) ++ (l.take k).flatMap nodesB)) wx)) (fun i _ => n - (intOf i).toNat)
  case atStart => exact ⟨0, rfl, by omega, ⟨by simpa using H3.out⟩⟩
  case round =>
    obtain ⟨k, rfl, hk, HW⟩ := hrel
    by_cases hlt : k < n
    · have hlt' : k < l.length := by rw [HN.out]; exact hlt
      obtain ⟨a, Aj, cj, rfl, _, d0, hcj, hnj, hrj⟩ := HR.out k hlt'
      have d1 := HW.out.kp.cell d0 (by simp)
      obtain ⟨m, hm⟩ : ∃ m, l[k].length = m := ⟨_, rfl⟩
      rw [hm] at d1
      have hb1 : (ys ++ (num (n : Int) ++ (l.take k).flatMap nodesB)).length ≤ 900000 := by
        have h1 := rowsB_len (l.take k)
        have h2 := gSize_take l k
        have h3 := num_len (n : Int)
        have h4 := HY.out
        have h5 := HM.out
        simp only [List.length_append]
        omega
      have hb2 : m ≤ 10000 := by
        have h1 := gSize_mem (List.getElem_mem hlt')
        have h5 := HM.out
        omega
      have HND := As.mk (nodes_any HW.out Aj m cj l[k] hm hrj.rd hb1 hb2)
      have HST : As (ys ++ (num (n : Int) ++ (l.take k).flatMap nodesB) ++ nodesB l[k] = ys ++ (num (n : Int) ++ (l.take (k + 1)).flatMap nodesB)) := ⟨by rw [rowsB_step l k hlt']; simp⟩
      rw [HST.out] at HND
      clear d0 hcj hnj hrj hm hb1 HST hlt'
      go_wp2_with (go_at_call 44; refine HND.out.mono ?_; rintro e w2 ⟨rfl, h2⟩; have H4 := As.mk h2; clear h2 HND)
      go_roundw
      case rel => exact ⟨k + 1, by go_num, by omega, H4⟩
      case measure => simp [intOf]; omega
    · obtain rfl : k = n := by omega
      go_wp2
      go_end0
      have e : l.take k = l := List.take_of_length_le (by rw [HN.out]; exact Nat.le_refl _)
      have h9 := HW.out
      rw [e] at h9
      exact ⟨rfl, by rw [gridB, HN.out]; exact h9⟩

/-- bytes and an error -/
def RetTwo (w : World) (xs : List Int) (z : Int) (e : Ending) (w' : World) : Prop := ∃ v, e = .returned (.tuple #[v, .int .i64 z]) ∧ Own 5 .u8 w' w.heap.size v xs ∧ Kp [] w w'
theorem RetTwo.no {w : World} {z : Int} : RetTwo w [] z (.returned (.tuple #[.slice none 0 0, .int .i64 z])) w := ⟨_, rfl, Own.nil _ _ _ _, Kp.refl _ _⟩
theorem gOk_no {l : List (List Int)} {k : Nat} (hk : k < l.length) (h : grp l[k] = false) : gOk l = false := by
  rw [gOk, decide_eq_false_iff_not]
  intro h1
  have := h1.2 _ (List.getElem_mem hk)
  rw [h] at this
  cases this
def foundR (l : List (List Int)) : List Int := if gOk l = true then foundB l else []
def okZ (b : Bool) : Int := if b = true then 0 else 1

theorem gOk_size {l : List (List Int)} (h : gOk l = true) : gSize l ≤ 10000 := by
  simp only [gOk, decide_eq_true_eq] at h
  have : ∀ (l : List (List Int)), (∀ x ∈ l, grp x = true) → gSize l ≤ 8 * l.length := by
    intro l h
    induction l with
    | nil => simp [gSize]
    | cons x l ih =>
      have h1 := (grp_len (h x (by simp))).2
      have h2 := ih (fun y hy => h y (by simp [hy]))
      simp only [gSize, List.map_cons, List.sum_cons, List.length_cons] at h2 ⊢
      omega
  have := this l h.2
  omega
theorem small_rows {l : List (List Int)} (h : gSize l ≤ 10000) : (∀ x ∈ l, x.length ≤ 9223372036854775807) ∧ l.length ≤ 9223372036854775807 :=
  ⟨fun x hx => by have := gSize_mem hx; omega, by have := gSize_len l; omega⟩

set_option maxHeartbeats 4000000 in
theorem found_gen (A : Option Addr) (n c : Nat) (l : List (List Int)) (w : World) (hn : l.length = n) (hr : Ri [] w A l) (hm : ∀ x ∈ l, x.length ≤ 9223372036854775807) (hn9 : n ≤ 9223372036854775807) :
    Calls Try.prog 10 #[.slice A n c] w (RetTwo w (foundR l) (okZ (gOk l))) := by
  have HN := As.mk hn
  have HR := As.mk hr
  have HM := As.mk hm
  clear hr hn hm
  by_cases h1 : n < 1
  · have HF : As (gOk l = false) := ⟨by rw [gOk, decide_eq_false_iff_not, HN.out]; omega⟩
    go_enter Try.func10, Try.ntmps10
    go_wp2
    go_ret2
    rw [foundR, okZ, HF.out]
    exact RetTwo.no
  · by_cases h8 : 8 < n
    · have HF : As (gOk l = false) := ⟨by rw [gOk, decide_eq_false_iff_not, HN.out]; omega⟩
      go_enter Try.func10, Try.ntmps10
      go_wp2
      go_ret2
      rw [foundR, okZ, HF.out]
      exact RetTwo.no
    · go_enter Try.func10, Try.ntmps10
      go_wp2
      go_loop [17] (fun i => ∃ k : Nat, i = .int .i64 (k : Int) ∧ k ≤ n ∧ As (∀ x ∈ l.take k, grp x = true)) (fun i => n - (intOf i).toNat)
      case atStart => exact ⟨0, rfl, by omega, ⟨by simp⟩⟩
      case round =>
        obtain ⟨k, rfl, hk, HP⟩ := hrel
        by_cases hlt : k < n
        · have hlt' : k < l.length := by rw [HN.out]; exact hlt
          obtain ⟨a, Aj, cj, rfl, _, d0, hcj, hnj, hrj⟩ := HR.out k hlt'
          obtain ⟨m, hm⟩ : ∃ m, l[k].length = m := ⟨_, rfl⟩
          rw [hm] at d0
          have hb2 : m ≤ 9223372036854775807 := by rw [← hm]; exact HM.out _ (List.getElem_mem hlt')
          have HI := As.mk (isNodes_any Aj m cj l[k] w hm hrj.rd (by omega))
          cases hg : grp l[k] with
          | false =>
            have HF := As.mk (gOk_no hlt' hg)
            rw [hg] at HI
            clear hcj hnj hrj hm hg hlt'
            go_wp2_with (go_at_call 38; refine HI.out.mono ?_; rintro e w2 ⟨rfl, rfl⟩; clear HI)
            go_ret2
            rw [foundR, okZ, HF.out]
            exact RetTwo.no
          | true =>
            rw [hg] at HI
            have HPX : As (∀ x ∈ l.take (k + 1), grp x = true) := ⟨by
              intro x hx
              rw [take_succ' l k hlt', List.mem_append, List.mem_singleton] at hx
              rcases hx with hx | rfl
              · exact HP.out x hx
              · exact hg⟩
            clear hcj hnj hrj hm hg hlt'
            go_wp2_with (go_at_call 38; refine HI.out.mono ?_; rintro e w2 ⟨rfl, rfl⟩; clear HI)
            go_round
            case rel => exact ⟨k + 1, by go_num, by omega, HPX⟩
            case measure => simp [intOf]; omega
        · obtain rfl : k = n := by omega
          have e : l.take k = l := List.take_of_length_le (by rw [HN.out]; exact Nat.le_refl _)
          rw [e] at HP
          clear e
          have HF : As (gOk l = true) := ⟨by rw [gOk, decide_eq_true_eq, HN.out]; exact ⟨by omega, HP.out⟩⟩
          have H1 := As.mk (mat_num (MW.new w) 1 (by simp))
          rw [World.size_alloc] at H1
          have H2 : As (∀ w1, MW w w.heap.size ([] ++ num 1) w1 → Calls Try.prog 40 #[.pointer (some ⟨w.heap.size, 0, none⟩), .slice A k c] w1 fun e w' => e = .returned (.tuple #[]) ∧ MW w w.heap.size (foundB l) w') := ⟨fun w1 h1 => by
            have := shards_any h1 A k c l HN.out HR.out (by have := num_len 1; rw [List.nil_append]; omega) (gOk_size HF.out)
            rw [List.nil_append] at this
            exact this⟩
          have H5 : As (∀ w2, MW w w.heap.size (foundB l) w2 → Calls Try.prog 41 #[.pointer (some ⟨w.heap.size, 0, none⟩)] w2 (fun e w' => ∃ v, e = .returned v ∧ Own 5 .u8 w' w.heap.size v (foundB l) ∧ Kp [] w w')) := ⟨fun w2 h2 => mat_out h2 (by
            have h1 := gridB_len l
            have h3 := num_len 1
            have h4 := gOk_size HF.out
            rw [foundB, List.length_append]; omega)⟩
          clear HP
          go_wp2_with (first
            | (go_at_call 39; refine H1.out.mono ?_; rintro e w1 ⟨rfl, h1⟩; have H3 := As.mk (H2.out w1 h1); clear h1 H1)
            | (go_at_call 40; refine H3.out.mono ?_; rintro e w2 ⟨rfl, h2⟩; have H6 := As.mk (H5.out w2 h2); clear h2 H3)
            | (go_at_call 41; refine H6.out.mono ?_; rintro e w3 ⟨v, rfl, o3, k3⟩; have HO3 := As.mk o3; have HK3 := As.mk k3; clear o3 k3 H6))
          go_ret2
          rw [foundR, okZ, HF.out]
          exact ⟨v, rfl, HO3.out, HK3.out⟩

theorem found_any (A : Option Addr) (n c : Nat) (l : List (List Int)) (w : World) (hn : l.length = n) (hr : Ri [] w A l) (hm : gSize l ≤ 10000) :
    Calls Try.prog 10 #[.slice A n c] w (RetTwo w (foundR l) (okZ (gOk l))) := found_gen A n c l w hn hr (small_rows hm).1 (by rw [← hn]; exact (small_rows hm).2)

def moveR (v s : Int) (l : List Int) : List Int := if mvOk v s l = true then moveB v s l else []
set_option maxHeartbeats 4000000 in
theorem move_any (v s : Int) (A : Option Addr) (n c : Nat) (xs : List Int) (w : World) (hn : xs.length = n) (hr : Rd w A (iv .i64 xs)) (hm : n ≤ 9223372036854775807) :
    Calls Try.prog 13 #[.int .i64 v, .int .i64 s, .slice A n c] w (RetTwo w (moveR v s xs) (okZ (mvOk v s xs))) := by
  have HI := As.mk (isNodes_any A n c xs w hn hr (by omega))
  have HN := As.mk hn
  have HR := As.mk hr
  clear hr hn
  by_cases h1 : v < 1
  · have HF : As (mvOk v s xs = false) := ⟨by rw [mvOk, decide_eq_false_iff_not]; omega⟩
    go_enter Try.func13, Try.ntmps13
    go_wp2
    go_ret2
    rw [moveR, okZ, HF.out]
    exact RetTwo.no
  by_cases h2 : 1099511627776 < v
  · have HF : As (mvOk v s xs = false) := ⟨by rw [mvOk, decide_eq_false_iff_not]; omega⟩
    go_enter Try.func13, Try.ntmps13
    go_wp2
    go_ret2
    rw [moveR, okZ, HF.out]
    exact RetTwo.no
  by_cases h3 : s < 0
  · have HF : As (mvOk v s xs = false) := ⟨by rw [mvOk, decide_eq_false_iff_not]; omega⟩
    go_enter Try.func13, Try.ntmps13
    go_wp2
    go_ret2
    rw [moveR, okZ, HF.out]
    exact RetTwo.no
  by_cases h4 : 8 ≤ s
  · have HF : As (mvOk v s xs = false) := ⟨by rw [mvOk, decide_eq_false_iff_not]; omega⟩
    go_enter Try.func13, Try.ntmps13
    go_wp2
    go_ret2
    rw [moveR, okZ, HF.out]
    exact RetTwo.no
  cases hg : grp xs with
  | false =>
    have HF : As (mvOk v s xs = false) := ⟨by rw [mvOk, decide_eq_false_iff_not, hg]; simp⟩
    rw [hg] at HI
    clear hg
    go_enter Try.func13, Try.ntmps13
    go_wp2_with (go_at_call 38; refine HI.out.mono ?_; rintro e w2 ⟨rfl, rfl⟩; clear HI)
    go_ret2
    rw [moveR, okZ, HF.out]
    exact RetTwo.no
  | true =>
    have HF : As (mvOk v s xs = true) := ⟨by rw [mvOk, decide_eq_true_eq, hg]; exact ⟨by omega, by omega, rfl⟩⟩
    have HGR := As.mk hg
    rw [hg] at HI
    clear hg
    have H1 : As (Calls Try.prog 39 #[.pointer (some ⟨w.heap.size, 0, none⟩), .slice (some ⟨w.heap.size + 1, 0, none⟩) 3 3] ((w.alloc (.cells #[.slice none 0 0] 79)).alloc (.cells #[.int .i64 2, .int .i64 v, .int .i64 s] 3)) fun e w' => e = .returned (.tuple #[]) ∧ MW w w.heap.size ([] ++ nums [2, v, s]) w') := ⟨by
      have := wr_lit (MW.new w) [2, v, s] 3 rfl (by simp) (by omega)
      rw [World.size_alloc] at this
      exact this⟩
    have H2 : As (∀ w1, MW w w.heap.size ([] ++ nums [2, v, s]) w1 → Calls Try.prog 44 #[.pointer (some ⟨w.heap.size, 0, none⟩), .slice A n c] w1 fun e w' => e = .returned (.tuple #[]) ∧ MW w w.heap.size (moveB v s xs) w') := ⟨fun w1 h1 => by
      have hl := nums_len [2, v, s]
      have h7 := (grp_len HGR.out).2
      have := nodes_any h1 A n c xs HN.out HR.out (by simp only [List.length_cons, List.length_nil, List.nil_append] at hl ⊢; omega) (by have := HN.out; omega)
      rw [List.nil_append] at this
      exact this⟩
    have H5 : As (∀ w2, MW w w.heap.size (moveB v s xs) w2 → Calls Try.prog 41 #[.pointer (some ⟨w.heap.size, 0, none⟩)] w2 (fun e w' => ∃ v1, e = .returned v1 ∧ Own 5 .u8 w' w.heap.size v1 (moveB v s xs) ∧ Kp [] w w')) := ⟨fun w2 h2 => mat_out h2 (by
      have h1 := nodesB_len xs
      have h3 := nums_len [2, v, s]
      have h4 := (grp_len HGR.out).2
      simp only [List.length_cons, List.length_nil] at h3
      rw [moveB, List.length_append]; omega)⟩
    go_enter Try.func13, Try.ntmps13
    go_wp2_with (first
      | (go_at_call 38; refine HI.out.mono ?_; rintro e w2 ⟨rfl, rfl⟩; clear HI)
      | (go_at_call 39; refine H1.out.mono ?_; rintro e w1 ⟨rfl, h1⟩; have H3 := As.mk (H2.out w1 h1); clear h1 H1)
      | (go_at_call 44; refine H3.out.mono ?_; rintro e w2 ⟨rfl, h2⟩; have H6 := As.mk (H5.out w2 h2); clear h2 H3)
      | (go_at_call 41; refine H6.out.mono ?_; rintro e w3 ⟨v1, rfl, o3, k3⟩; have HO3 := As.mk o3; have HK3 := As.mk k3; clear o3 k3 H6))
    go_ret2
    rw [moveR, okZ, HF.out]
    exact ⟨v1, rfl, HO3.out, HK3.out⟩
end Go.Proofs.Ytiabdeciadfiiaa.man
