/- The document's ReadList (chapter 15), readLists, Found, Move (chapter 21). -/
import Derived.Test.YtiabdeciadfiiaaManR
import Derived.Deep.CutRange
import Derived.Deep.CutBlock
namespace Go.Proofs.Ytiabdeciadfiiaa.mref
open Go.RowKit H O opk refr

/-- What the document's ReadList leaves, against the plain word. -/
def RL (s : Option (List Int)) (xs : List Int) (s' : Option (List Int)) : Prop :=
  (s' = none → (rdN s).2 = none) ∧ (s'.isSome → grp xs = true → rdN s = (xs, s')) ∧ (s'.isSome → grp xs = false → (rdN s).2 = none)
/-- in the midst of it -/
def RJ (n : Nat) (s1 : Option (List Int)) (k : Nat) (xs : List Int) (s : Option (List Int)) : Prop :=
  k ≤ n ∧ xs.length = k ∧ ((k ≤ 17 ∧ xs = (stNums k s1).1 ∧ s = (stNums k s1).2) ∨ (k = 18 ∧ s = none))
theorem RJ.end_ {n k : Nat} {s s1 sk : Option (List Int)} {xs : List Int} (hn : stNum s = (n, s1)) (h : RJ n s1 k xs sk) (he : k = n ∨ sk = none) : RL s xs sk := by
  obtain ⟨hk, _, h⟩ := h
  rcases h with ⟨h17, h1, h2⟩ | ⟨h18, h1⟩
  · refine ⟨fun e => ?_, fun hs hg => ?_, fun hs hg => ?_⟩
    · have hst := stNums_stay (s := s1) (k := k) (j := n) (by rw [← h2]; exact e) hk
      simp only [rdN, hn]
      split
      · rfl
      · simp only [hst, ite_self]
    · rcases he with rfl | he
      · have h7 := (grp_len hg).2
        have hlen := reader.stNums_len k s1
        rw [h1] at h7 hg
        simp only [rdN, hn]
        rw [if_neg (by omega), if_pos hg, h1, h2]
      · rw [he] at hs; cases hs
    · rcases he with rfl | he
      · simp only [rdN, hn]
        split
        · rfl
        · rw [h1] at hg
          simp only [hg]
          rfl
      · rw [he] at hs; cases hs
  · refine ⟨fun _ => ?_, (fun hs => by rw [h1] at hs; cases hs), (fun hs => by rw [h1] at hs; cases hs)⟩
    simp only [rdN, hn]
    rw [if_pos (by omega)]
def ListPost (b : Nat) (g : Option Nat) (s : Option (List Int)) (w : World) (e : Ending) (w' : World) : Prop :=
  ∃ xs s', RL s xs s' ∧ xs.length ≤ 18 ∧ NodesPost b g xs s' w e w'

set_option maxHeartbeats 4000000 in
set_option maxRecDepth 100000 in
theorem readList_any (b : Nat) (g : Option Nat) (s : Option (List Int)) (w : World) (hR : Rdr w b g s) (hg : ∀ y, g = some y → y < w.heap.size) (hb : (left s).length ≤ 140737488351232) :
    Calls Try.prog 77 #[.pointer (some ⟨b, 0, none⟩)] w (ListPost b g s w) := by
  have hbl := hR.lt
  obtain ⟨n, s1, hn⟩ : ∃ n s1, stNum s = (n, s1) := ⟨_, _, rfl⟩
  have hl1 : (left s1).length ≤ 140737488351232 := by have := left_num hb; rwa [hn] at this
  have hn9 : n ≤ 4611686018427387904 := by
    cases s with
    | none => simp [stNum] at hn; omega
    | some l =>
      simp only [stNum] at hn
      split at hn
      · simp at hn; omega
      · rename_i hd
        have := dec_bd hd
        simp at hn
        omega
  have HNUM : As (Calls Try.prog 50 #[.pointer (some ⟨b, 0, none⟩)] w fun e w1 => e = .returned (.int .i64 (n : Int)) ∧ NR w b g (.slice none 0 0) 0 [] s1 w1) := ⟨by
    refine (num_any b g s w hR hb).mono ?_
    rw [hn]
    rintro e w1 ⟨rfl, g1, R1, G1, K1⟩
    exact ⟨rfl, NR.start hbl hg R1 G1 K1⟩⟩
  have HE := As.mk hn
  have HL := As.mk hl1
  clear hR hg hb hn hl1 hbl
  go_enter Try.func77, Try.ntmps77
  go_wp2_with (first
    | (go_at_call 50; refine HNUM.out.mono ?_; rintro e w1 ⟨rfl, h1⟩; have H1 := As.mk h1; clear h1 HNUM))
  go_loopw [4, 5] (fun v i wr => ∃ (k : Nat) (A : Option Addr) (c : Nat) (xs : List Int) (sk : Option (List Int)), i = .int .i64 (k : Int) ∧ v = .slice A k c ∧ k ≤ n ∧ k ≤ 18 ∧ As (NR w b g v k xs sk wr) ∧ As (RJ n s1 k xs sk)) (fun _ i _ => n - (intOf i).toNat)
  case atStart => exact ⟨0, none, 0, [], s1, rfl, rfl, by omega, by omega, H1, ⟨by omega, rfl, .inl ⟨by omega, rfl, rfl⟩⟩⟩
  case round =>
    obtain ⟨k, A, c, xs, sk, rfl, rfl, hk, hk18, HD, HJ⟩ := hrel
    have hce := HD.out.err
    by_cases hlt : k < n
    · cases hsk : sk with
      | none =>
        rw [hsk] at hce
        have hce' : wr.cell? ⟨b, 1, none⟩ = some (.bool true) := hce
        have HRL := As.mk (HJ.out.end_ HE.out (.inr hsk))
        have HPX : As (ListPost b g s w (.returned (.slice A k c)) wr) := ⟨⟨xs, sk, HRL.out, by have := HJ.out.2.1; omega, HD.out.post HJ.out.2.1⟩⟩
        clear hce hsk
        go_wp2
        go_ret
        exact HPX.out
      | some r =>
        rw [hsk] at hce
        have hce' : wr.cell? ⟨b, 1, none⟩ = some (.bool false) := hce
        have hj17 : k ≤ 17 ∧ xs = (stNums k s1).1 ∧ sk = (stNums k s1).2 := by
          obtain ⟨_, _, h | h⟩ := HJ.out
          · exact h
          · rw [h.2] at hsk; cases hsk
        have h17 := hj17.1
        have HN := As.mk (HD.out.num (by rw [hj17.2.2]; exact reader.stNums_left HL.out))
        obtain ⟨x, hx⟩ : ∃ x, x = (stNum sk).1 := ⟨_, rfl⟩
        rw [← hx] at HN
        have HST : As (xs ++ [(x : Int)] = (stNums (k + 1) s1).1 ∧ (stNum sk).2 = (stNums (k + 1) s1).2 ∧ (xs ++ [(x : Int)]).length = k + 1) := ⟨by rw [reader.stNums_snoc, hx, hj17.2.1, hj17.2.2]; exact ⟨rfl, rfl, by simp [reader.stNums_len]⟩⟩
        clear hx hce hsk hj17
        by_cases h16 : k ≤ 16
        · go_wp2_with (first
            | (go_at_call 50; refine HN.out.mono ?_; rintro e w2 ⟨rfl, h2⟩; have H2 := As.mk h2; clear h2 HN)
            | (at_builtin; refine H.app64_one rfl (.tmp 20) (.tmp 23) rfl (.slice A k c) k (iv .i64 xs) rfl H2.out.own (x : Int) rfl (by omega) ?_; intro v3 w3 o3 k3 a3; have h3 := H2.out.put o3 k3 a3; obtain ⟨A3, c3, rfl, _, _⟩ := h3.form; have H3 := As.mk h3; clear o3 k3 a3 h3))
          go_roundw
          case rel => exact ⟨k + 1, A3, c3, _, _, by go_num, rfl, by omega, by omega, H3, ⟨by omega, HST.out.2.2, .inl ⟨by omega, HST.out.1, HST.out.2.1⟩⟩⟩
          case measure => simp [intOf]; omega
        · obtain rfl : k = 17 := by omega
          go_wp2_with (first
            | (go_at_call 50; refine HN.out.mono ?_; rintro e w2 ⟨rfl, h2⟩; have H2 := As.mk h2; clear h2 HN)
            | (at_builtin; refine H.app64_one rfl (.tmp 20) (.tmp 23) rfl (.slice A 17 c) 17 (iv .i64 xs) rfl H2.out.own (x : Int) rfl (by omega) ?_; intro v3 w3 o3 k3 a3; have h3 := H2.out.put o3 k3 a3; obtain ⟨A3, c3, rfl, _, _⟩ := h3.form; have HB := As.mk h3.bad; clear o3 k3 a3 h3)
            | (go_at_call 76; refine HB.out.mono ?_; rintro e w4 ⟨rfl, h4⟩; have H4 := As.mk h4; clear h4 HB))
          go_roundw
          case rel => exact ⟨17 + 1, A3, c3, _, _, by go_num, rfl, by omega, by omega, H4, ⟨by omega, HST.out.2.2, .inr ⟨rfl, rfl⟩⟩⟩
          case measure => simp [intOf]; omega
    · obtain rfl : k = n := by omega
      have HRL := As.mk (HJ.out.end_ HE.out (.inl rfl))
      have HPX : As (ListPost b g s w (.returned (.slice A k c)) wr) := ⟨⟨xs, sk, HRL.out, by have := HJ.out.2.1; omega, HD.out.post HJ.out.2.1⟩⟩
      clear hce
      go_wp2
      go_ret
      exact HPX.out

/-- What the document's readLists leaves. -/
def ListsPost (b : Nat) (g : Option Nat) (s : Option (List Int)) (w : World) (e : Ending) (w' : World) : Prop :=
  ∃ l, ((rdG s).2.isSome → l = (rdG s).1) ∧ l.length ≤ 8 ∧ ShardsPost b g l (rdG s).2 w e w'

set_option maxHeartbeats 8000000 in
set_option maxRecDepth 100000 in
theorem readLists_any (b : Nat) (g : Option Nat) (s : Option (List Int)) (w : World) (hR : Rdr w b g s) (hg : ∀ y, g = some y → y < w.heap.size) (hb : (left s).length ≤ 140737488351232) :
    Calls Try.prog 51 #[.pointer (some ⟨b, 0, none⟩)] w (ListsPost b g s w) := by
  have hbl := hR.lt
  obtain ⟨n, s1, hn⟩ : ∃ n s1, stNum s = (n, s1) := ⟨_, _, rfl⟩
  have hl1 : (left s1).length ≤ 140737488351232 := by have := left_num hb; rwa [hn] at this
  have HNUM : As (Calls Try.prog 50 #[.pointer (some ⟨b, 0, none⟩)] w fun e w1 => e = .returned (.int .i64 (n : Int)) ∧ SR w b g (.slice none 0 0) 0 [] s1 w1) := ⟨by
    refine (num_any b g s w hR hb).mono ?_
    rw [hn]
    rintro e w1 ⟨rfl, g1, R1, G1, K1⟩
    exact ⟨rfl, SR.start hbl hg R1 G1 K1⟩⟩
  have HE : As ((rdG s) = if 8 < n then ([], none) else rdIter n s1) := ⟨by rw [rdG, hn]⟩
  have HL := As.mk hl1
  have HG := As.mk hg
  clear hR hg hb hn hl1 hbl
  by_cases h8 : 8 < n
  · have HZ : As (rdG s = ([], none)) := ⟨by rw [HE.out, if_pos h8]⟩
    go_enter Try.func51, Try.ntmps51
    go_wp2_with (first
      | (go_at_call 50; refine HNUM.out.mono ?_; rintro e w1 ⟨rfl, h1⟩; have HB := As.mk h1.bad; clear h1 HNUM)
      | (go_at_call 76; refine HB.out.mono ?_; rintro e w2 ⟨rfl, h2, _⟩; have H2 := As.mk h2; clear h2 HB))
    go_loopw [4, 5] (fun v i wr => i = .int .i64 0 ∧ v = .slice none 0 0 ∧ As (wr = w2)) (fun _ i _ => 0)
    case atStart => exact ⟨rfl, rfl, ⟨rfl⟩⟩
    case round =>
      obtain ⟨rfl, rfl, ⟨rfl⟩⟩ := hrel
      have hce := H2.out.err
      have hce' : wr.cell? ⟨b, 1, none⟩ = some (.bool true) := hce
      clear hce
      have hpos : decide (0 < (n : Int)) = true := by simp; omega
      have hpos' : 0 < n := by omega
      go_wp2
      go_ret
      have h9 := H2.out.post
      exact ⟨[], by rw [HZ.out]; simp, by simp, by rw [HZ.out]; exact h9⟩
  · have HZ : As (rdG s = rdIter n s1) := ⟨by rw [HE.out, if_neg h8]⟩
    go_enter Try.func51, Try.ntmps51
    go_wp2_with (first
      | (go_at_call 50; refine HNUM.out.mono ?_; rintro e w1 ⟨rfl, h1⟩; have H1 := As.mk h1; clear h1 HNUM))
    go_loopw [4, 5] (fun v i wr => ∃ (k : Nat) (A : Option Addr) (c : Nat) (l : List (List Int)), i = .int .i64 (k : Int) ∧ v = .slice A k c ∧ k ≤ n ∧ As (SR w b g v k l (rdIter k s1).2 wr) ∧ As ((rdIter k s1).2.isSome → l = (rdIter k s1).1)) (fun _ i _ => n - (intOf i).toNat)
    case atStart => exact ⟨0, none, 0, [], rfl, rfl, by omega, H1, ⟨fun _ => rfl⟩⟩
    case round =>
      obtain ⟨k, A, c, l, rfl, rfl, hk, HD, HLL⟩ := hrel
      have hce := HD.out.err
      by_cases hlt : k < n
      · cases hsk : (rdIter k s1).2 with
        | none =>
          rw [hsk] at hce
          have hce' : wr.cell? ⟨b, 1, none⟩ = some (.bool true) := hce
          have HPX : As (ListsPost b g s w (.returned (.slice A k c)) wr) := ⟨by
            have e : (rdG s).2 = none := by rw [HZ.out]; exact rdIter_stay hsk hk
            refine ⟨l, (by rw [e]; intro h; cases h), by have := HD.out.len; omega, ?_⟩
            rw [e]
            have h9 := HD.out.post
            rwa [hsk] at h9⟩
          clear hce hsk
          go_wp2
          go_ret
          exact HPX.out
        | some r =>
          rw [hsk] at hce
          have hce' : wr.cell? ⟨b, 1, none⟩ = some (.bool false) := hce
          obtain ⟨g1, R1, G1⟩ := HD.out.rdr
          have hg1 : ∀ y, g1 = some y → y < wr.heap.size := by
            intro y hy
            have := HD.out.kp.size
            rcases G1 with rfl | rfl
            · have := HG.out y hy; omega
            · cases hy
          have HN := As.mk (readList_any b g1 _ wr R1 hg1 (left_rdIter HL.out k))
          have HG1 := As.mk G1
          have HNX : As (∀ xs s', RL (rdIter k s1).2 xs s' → ((rdIter (k + 1) s1).2 = if grp xs = true then s' else none) ∧ ((rdIter (k + 1) s1).2.isSome → l ++ [xs] = (rdIter (k + 1) s1).1)) := ⟨by
            intro xs s' hrl
            obtain ⟨h1, h2, h3⟩ := hrl
            have e1 : (rdIter (k + 1) s1).2 = (rdN (rdIter k s1).2).2 := rfl
            have e2 : (rdIter (k + 1) s1).1 = (rdIter k s1).1 ++ [(rdN (rdIter k s1).2).1] := rfl
            have e3 : l = (rdIter k s1).1 := HLL.out (by rw [hsk]; rfl)
            rw [e1, e2]
            cases hs' : s' with
            | none => rw [h1 hs']; simp
            | some q =>
              cases hgx : grp xs with
              | false => rw [h3 (by rw [hs']; rfl) hgx]; simp
              | true => rw [h2 (by rw [hs']; rfl) hgx, hs', e3]; simp⟩
          have HSIZ : As (∀ y, (Value.slice A k c).ownBlock = some y → y < wr.heap.size) := ⟨by obtain ⟨vs, o⟩ := HD.out.own; exact fun y hy => own_lt o y hy⟩
          clear hce hsk R1 G1 hg1
          go_upto_region 9 with (go_at_call 77; refine HN.out.mono ?_; rintro e w2 ⟨xs, s', hrl, hx18, hp⟩; obtain ⟨Au, cu, vs, rfl, h2⟩ := HD.out.ones HG1.out hp; obtain ⟨m, hm⟩ : ∃ m, xs.length = m := ⟨_, rfl⟩; rw [hm] at h2 hx18; rw [hm]; have H2 := As.mk h2; have HM := As.mk hm; have HX := As.mk (HNX.out xs s' hrl); clear hp h2 hrl hm HN HNX)
          have HI := As.mk (group_any Au m cu xs w2 HM.out H2.out.rd (by omega))
          cases hgx : grp xs with
          | true =>
            rw [hgx] at HI
            have HX2 : As ((rdIter (k + 1) s1).2 = s' ∧ ((rdIter (k + 1) s1).2.isSome → l ++ [xs] = (rdIter (k + 1) s1).1)) := ⟨by have := HX.out; rw [hgx] at this; exact this⟩
            clear hgx HX
            go_wp2_with (first
              | (go_at_call 55; refine HI.out.mono ?_; rintro e w3 ⟨rfl, q, rfl⟩; have H3 := As.mk (H2.out.skip ((Kp.refl [] w2).drewN q)); clear HI)
              | (at_builtin; refine appRow rfl (.tmp 32) (.tmp 34) rfl (.slice A k c) k vs rfl H3.out.own (.slice Au m cu) rfl rfl (by omega) ?_; intro v4 w4 o4 k4 a4; have h4 := H3.out.put o4 k4 a4; obtain ⟨A4, c4, rfl⟩ := h4.form; have H4 := As.mk h4; clear o4 k4 a4 h4))
            go_roundw
            case rel => exact ⟨k + 1, A4, c4, _, by go_num, rfl, by omega, ⟨by rw [HX2.out.1]; exact H4.out⟩, ⟨HX2.out.2⟩⟩
            case measure => simp [intOf]; omega
          | false =>
            rw [hgx] at HI
            have HX2 : As ((rdIter (k + 1) s1).2 = none) := ⟨by have := HX.out.1; rw [hgx] at this; exact this⟩
            clear hgx HX
            go_wp2_with (first
              | (go_at_call 55; refine HI.out.mono ?_; rintro e w3 ⟨rfl, q, rfl⟩; have HB := As.mk (H2.out.skip ((Kp.refl [] w2).drewN q)).bad; clear HI)
              | (go_at_call 76; refine HB.out.mono ?_; rintro e w3' ⟨rfl, h3⟩; have H3 := As.mk h3; clear h3 HB)
              | (at_builtin; refine appRow rfl (.tmp 32) (.tmp 34) rfl (.slice A k c) k vs rfl H3.out.own (.slice Au m cu) rfl rfl (by omega) ?_; intro v4 w4 o4 k4 a4; have h4 := H3.out.put o4 k4 a4; obtain ⟨A4, c4, rfl⟩ := h4.form; have H4 := As.mk h4; clear o4 k4 a4 h4))
            go_roundw
            case rel => exact ⟨k + 1, A4, c4, _, by go_num, rfl, by omega, ⟨by rw [HX2.out]; exact H4.out⟩, ⟨(by rw [HX2.out]; intro h; cases h)⟩⟩
            case measure => simp [intOf]; omega
      · obtain rfl : k = n := by omega
        have HPX : As (ListsPost b g s w (.returned (.slice A k c)) wr) := ⟨by
          refine ⟨l, by rw [HZ.out]; exact HLL.out, by have := HD.out.len; omega, ?_⟩
          rw [HZ.out]
          exact HD.out.post⟩
        clear hce
        go_wp2
        go_ret
        exact HPX.out

/-- append of a row of bytes onto one of the call's own: what both are -/
theorem own_then {w w2 w3 : World} {v v3 : Value} {xs ys : List Int} {n m : Nat} (o1 : Own 5 .u8 w2 w.heap.size v xs) (hn : xs.length = n) (hm : ys.length = m) (k2 : Kp [] w w2)
    (o3 : w3.ownsRow 0 5 1 v3 (n + m) (iv .u8 xs ++ iv .u8 ys)) (k3 : Kp v.ownBlock.toList w2 w3) (a3 : At w2.heap.size v.ownBlock v3.ownBlock) : Own 5 .u8 w3 w.heap.size v3 (xs ++ ys) ∧ Kp [] w w3 :=
  ⟨ref.own_apps o1 hn hm k2.size o3 a3, k2.row k3 (fun y hy => .inr (o1.2 y hy))⟩

set_option maxHeartbeats 4000000 in
theorem found_gen (A : Option Addr) (n c : Nat) (l : List (List Int)) (w : World) (hn : l.length = n) (hr : Ri [] w A l) (hm : ∀ x ∈ l, x.length ≤ 9223372036854775807) (hn9 : n ≤ 9223372036854775807) :
    Calls Try.prog 25 #[.slice A n c] w (man.RetTwo w (man.foundR l) (man.okZ (gOk l))) := by
  have HN := As.mk hn
  have HR := As.mk hr
  have HM := As.mk hm
  clear hr hn hm
  by_cases h1 : n < 1
  · have HF : As (gOk l = false) := ⟨by rw [gOk, decide_eq_false_iff_not, HN.out]; omega⟩
    go_enter Try.func25, Try.ntmps25
    go_wp2
    go_ret2
    rw [man.foundR, man.okZ, HF.out]
    exact man.RetTwo.no
  · by_cases h8 : 8 < n
    · have HF : As (gOk l = false) := ⟨by rw [gOk, decide_eq_false_iff_not, HN.out]; omega⟩
      go_enter Try.func25, Try.ntmps25
      go_wp2
      go_ret2
      rw [man.foundR, man.okZ, HF.out]
      exact man.RetTwo.no
    · go_enter Try.func25, Try.ntmps25
      go_wp2
      go_loopw [4] (fun i wr => ∃ k : Nat, i = .int .i64 (k : Int) ∧ k ≤ n ∧ As (∀ x ∈ l.take k, grp x = true) ∧ ∃ q, wr = w.drewN q) (fun i _ => n - (intOf i).toNat)
      case atStart => exact ⟨0, rfl, by omega, ⟨by simp⟩, 0, rfl⟩
      case round =>
        obtain ⟨k, rfl, hk, HP, q, rfl⟩ := hrel
        by_cases hlt : k < n
        · have hlt' : k < l.length := by rw [HN.out]; exact hlt
          obtain ⟨a, Aj, cj, rfl, _, d0, hcj, hnj, hrj⟩ := HR.out k hlt'
          obtain ⟨m, hm⟩ : ∃ m, l[k].length = m := ⟨_, rfl⟩
          rw [hm] at d0
          have hb2 : m ≤ 9223372036854775807 := by rw [← hm]; exact HM.out _ (List.getElem_mem hlt')
          have HI := As.mk (group_any Aj m cj l[k] (w.drewN q) hm (((Kp.refl [] w).drewN q).rd hrj.rd (fun _ _ => by simp)) (by omega))
          cases hg : grp l[k] with
          | false =>
            have HF := As.mk (man.gOk_no hlt' hg)
            rw [hg] at HI
            clear hcj hnj hrj hm hg hlt'
            go_wp2_with (go_at_call 55; refine HI.out.mono ?_; rintro e w2 ⟨rfl, q2, rfl⟩; clear HI)
            go_ret2
            rw [man.foundR, man.okZ, HF.out]
            exact ⟨_, rfl, Own.nil _ _ _ _, (Kp.refl [] w).drewN (q + q2)⟩
          | true =>
            rw [hg] at HI
            have HPX : As (∀ x ∈ l.take (k + 1), grp x = true) := ⟨by
              intro x hx
              rw [take_succ' l k hlt', List.mem_append, List.mem_singleton] at hx
              rcases hx with hx | rfl
              · exact HP.out x hx
              · exact hg⟩
            clear hcj hnj hrj hm hg hlt'
            go_wp2_with (go_at_call 55; refine HI.out.mono ?_; rintro e w2 ⟨rfl, q2, rfl⟩; clear HI)
            go_roundw
            case rel => exact ⟨k + 1, by go_num, by omega, HPX, by first | exact ⟨_, rfl⟩ | exact ⟨_, World.drewN_drewN ..⟩⟩
            case measure => simp [intOf]; omega
        · obtain rfl : k = n := by omega
          have e : l.take k = l := List.take_of_length_le (by rw [HN.out]; exact Nat.le_refl _)
          rw [e] at HP
          clear e
          have HF : As (gOk l = true) := ⟨by rw [gOk, decide_eq_true_eq, HN.out]; exact ⟨by omega, HP.out⟩⟩
          obtain ⟨m1, hm1⟩ : ∃ m, (num (1 : Int)).length = m := ⟨_, rfl⟩
          obtain ⟨m2, hm2⟩ : ∃ m, (gridB l).length = m := ⟨_, rfl⟩
          have hb1 : m1 ≤ 9 := by rw [← hm1]; exact num_len _
          have hb2 : m2 ≤ 100000 := by have h1 := gridB_len l; have h4 := man.gOk_size HF.out; omega
          have HM1 := As.mk hm1
          have HM2 := As.mk hm2
          have HK0 : As (Kp [] w (w.drewN q)) := ⟨(Kp.refl [] w).drewN q⟩
          have HLS : As (∀ w1, Kp [] w w1 → Calls Try.prog 54 #[.slice A k c] w1 (RetOwn 5 .u8 w1 (gridB l))) := ⟨fun w1 k1 => lists_any A k c l w1 HN.out (HR.out.kp k1 (by simp) (by simp)) (man.gOk_size HF.out)⟩
          clear HP hm1 hm2
          go_wp2_with (first
            | (go_at_call 53; refine (ref.num_any _ _).mono ?_; rintro e w1 ⟨v1, rfl, o1, k1⟩; have HO1 := As.mk (o1.lower HK0.out.size); have HK1 : As (Kp [] w w1) := ⟨HK0.out.trans k1 (by simp)⟩; have HL1 := As.mk (HLS.out w1 HK1.out); clear o1 k1)
            | (go_at_call 54; refine HL1.out.mono ?_; rintro e w2 ⟨v2, rfl, o2, k2⟩; obtain ⟨A2, c2, rfl, _, _, r2, n2⟩ := own_rd o2.1; rw [HM2.out]; have HR2 := As.mk r2; have HN2 := As.mk n2; have HO2 := As.mk (HO1.out.kp k2 (by simp)); have HOW2 : As (w2.ownsRow 0 5 1 v1 m1 (iv .u8 (num 1))) := ⟨by rw [← HM1.out]; exact HO2.out.1⟩; have HK2 : As (Kp [] w w2) := ⟨HK1.out.trans k2 (by simp)⟩; clear o2 k2 r2 n2 HL1)
            | (at_builtin; refine clone.app8 rfl (.tmp 25) (.tmp 27) rfl v1 m1 (iv .u8 (num 1)) rfl HOW2.out A2 m2 c2 (iv .u8 (gridB l)) rfl (by rw [iv_len, HM2.out]) HR2.out HN2.out (iv_one _ _) (by omega) ?_; intro v3 w3 o3 k3 a3; have HO3 := As.mk (own_then HO2.out HM1.out HM2.out HK2.out o3 k3 a3); clear o3 k3 a3))
          go_ret2
          rw [man.foundR, man.okZ, HF.out]
          exact ⟨_, rfl, HO3.out.1, HO3.out.2⟩

set_option maxHeartbeats 4000000 in
theorem move_any (v s : Int) (A : Option Addr) (n c : Nat) (xs : List Int) (w : World) (hn : xs.length = n) (hr : Rd w A (iv .i64 xs)) (hnil : A = none → c = 0) (hm : n ≤ 9223372036854775807) :
    Calls Try.prog 26 #[.int .i64 v, .int .i64 s, .slice A n c] w (man.RetTwo w (man.moveR v s xs) (man.okZ (mvOk v s xs))) := by
  have HI := As.mk (group_any A n c xs w hn hr (by omega))
  have HN := As.mk hn
  have HR := As.mk hr
  have HNL := As.mk hnil
  clear hr hn hnil
  by_cases h1 : v < 1
  · have HF : As (mvOk v s xs = false) := ⟨by rw [mvOk, decide_eq_false_iff_not]; omega⟩
    go_enter Try.func26, Try.ntmps26
    go_wp2
    go_ret2
    rw [man.moveR, man.okZ, HF.out]
    exact man.RetTwo.no
  by_cases h2 : 1099511627776 < v
  · have HF : As (mvOk v s xs = false) := ⟨by rw [mvOk, decide_eq_false_iff_not]; omega⟩
    go_enter Try.func26, Try.ntmps26
    go_wp2
    go_ret2
    rw [man.moveR, man.okZ, HF.out]
    exact man.RetTwo.no
  by_cases h3 : s < 0
  · have HF : As (mvOk v s xs = false) := ⟨by rw [mvOk, decide_eq_false_iff_not]; omega⟩
    go_enter Try.func26, Try.ntmps26
    go_wp2
    go_ret2
    rw [man.moveR, man.okZ, HF.out]
    exact man.RetTwo.no
  by_cases h4 : 8 ≤ s
  · have HF : As (mvOk v s xs = false) := ⟨by rw [mvOk, decide_eq_false_iff_not]; omega⟩
    go_enter Try.func26, Try.ntmps26
    go_wp2
    go_ret2
    rw [man.moveR, man.okZ, HF.out]
    exact man.RetTwo.no
  cases hg : grp xs with
  | false =>
    have HF : As (mvOk v s xs = false) := ⟨by rw [mvOk, decide_eq_false_iff_not, hg]; simp⟩
    rw [hg] at HI
    clear hg
    go_enter Try.func26, Try.ntmps26
    go_wp2_with (go_at_call 55; refine HI.out.mono ?_; rintro e w2 ⟨rfl, q, rfl⟩; clear HI)
    go_ret2
    rw [man.moveR, man.okZ, HF.out]
    exact ⟨_, rfl, Own.nil _ _ _ _, (Kp.refl [] w).drewN q⟩
  | true =>
    have HF : As (mvOk v s xs = true) := ⟨by rw [mvOk, decide_eq_true_eq, hg]; exact ⟨by omega, by omega, rfl⟩⟩
    have HGR := As.mk hg
    have hm7 : n ≤ 7 := by have := (grp_len hg).2; have := HN.out; omega
    rw [hg] at HI
    clear hg
    obtain ⟨m1, hm1⟩ : ∃ m, (nums [2, v, s]).length = m := ⟨_, rfl⟩
    obtain ⟨m2, hm2⟩ : ∃ m, (nodesB xs).length = m := ⟨_, rfl⟩
    have hb1 : m1 ≤ 27 := by have := nums_len [2, v, s]; simp only [List.length_cons, List.length_nil] at this; omega
    have hb2 : m2 ≤ 100000 := by have h1 := nodesB_len xs; have h4 := HN.out; omega
    have HM1 := As.mk hm1
    have HM2 := As.mk hm2
    have HNU : As (∀ q, Calls Try.prog 56 #[.slice (some ⟨w.heap.size, 0, none⟩) 3 3] ((w.drewN q).alloc (.cells #[.int .i64 2, .int .i64 v, .int .i64 s] 3)) fun e w' => ∃ v1, e = .returned v1 ∧ Own 5 .u8 w' w.heap.size v1 (nums [2, v, s]) ∧ Kp [] w w') := ⟨fun q => by
      have h9 := ref.nums_any (some ⟨w.heap.size, 0, none⟩) 3 3 [2, v, s] ((w.drewN q).alloc (.cells #[.int .i64 2, .int .i64 v, .int .i64 s] 3)) rfl (rd_new (w.drewN q) [.int .i64 2, .int .i64 v, .int .i64 s] _) (by omega)
      refine h9.mono ?_
      rintro e w' ⟨v1, rfl, o, k⟩
      have kk : Kp [] w ((w.drewN q).alloc (.cells #[.int .i64 2, .int .i64 v, .int .i64 s] 3)) := ((Kp.refl [] w).drewN q).alloc _
      exact ⟨v1, rfl, o.lower kk.size, kk.trans k (by simp)⟩⟩
    have HLS : As (∀ w1, Kp [] w w1 → Calls Try.prog 57 #[.slice A n c] w1 (RetOwn 5 .u8 w1 (nodesB xs))) := ⟨fun w1 k1 => list_any A n c xs w1 HN.out (k1.rd_new HR.out (by simp)) HNL.out (by omega)⟩
    clear hm1 hm2
    go_enter Try.func26, Try.ntmps26
    go_wp2_with (first
      | (go_at_call 55; refine HI.out.mono ?_; rintro e w2 ⟨rfl, q, rfl⟩; have HNU2 := As.mk (HNU.out q); clear HI)
      | (go_at_call 56; refine HNU2.out.mono ?_; rintro e w1 ⟨v1, rfl, o1, k1⟩; have HO1 := As.mk o1; have HK1 := As.mk k1; have HL1 := As.mk (HLS.out w1 HK1.out); clear o1 k1 HNU2)
      | (go_at_call 57; refine HL1.out.mono ?_; rintro e w2 ⟨v2, rfl, o2, k2⟩; obtain ⟨A2, c2, rfl, _, _, r2, n2⟩ := own_rd o2.1; rw [HM2.out]; have HR2 := As.mk r2; have HN2 := As.mk n2; have HO2 := As.mk (HO1.out.kp k2 (by simp)); have HOW2 : As (w2.ownsRow 0 5 1 v1 m1 (iv .u8 (nums [2, v, s]))) := ⟨by rw [← HM1.out]; exact HO2.out.1⟩; have HK2 : As (Kp [] w w2) := ⟨HK1.out.trans k2 (by simp)⟩; clear o2 k2 r2 n2 HL1)
      | (at_builtin; refine clone.app8 rfl (.tmp 30) (.tmp 32) rfl v1 m1 (iv .u8 (nums [2, v, s])) rfl HOW2.out A2 m2 c2 (iv .u8 (nodesB xs)) rfl (by rw [iv_len, HM2.out]) HR2.out HN2.out (iv_one _ _) (by omega) ?_; intro v3 w3 o3 k3 a3; have HO3 := As.mk (own_then HO2.out HM1.out HM2.out HK2.out o3 k3 a3); clear o3 k3 a3))
    go_ret2
    rw [man.moveR, man.okZ, HF.out]
    exact ⟨_, rfl, HO3.out.1, HO3.out.2⟩
end Go.Proofs.Ytiabdeciadfiiaa.mref
