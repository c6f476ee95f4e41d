/- MERGED: RdrB RefR RefR2 MatM8 MatC MatM1 Empty MatD MatE RepE RepF Canon DecF FrameD FrameE FrameR Four1 Ref8 Ref8b Same24 Util24 Ints24 -/
import Derived.Test.YtdiljpdohmeceaaGreatBone
import Derived.Test.YtdiljpdohmeceaaGreatBase
import Derived.Deep.RegionLaw
import Derived.Deep.CutRange
import Derived.Deep.CutBlock
import Derived.BigQuiet
import Derived.Test.YtdiljpdohmeceaaGreatProg
import Derived.Deep.RegionHeld3
/- What a Reader (type haystackref1.Reader) holds. -/
namespace Go.Proofs.YtdiljpdohmeceaaGreat.refr
open Go.RowKit H O

/-- The Reader in block b: what is left of its bytes (in block g), or nothing: it erred. -/
def Rdr (w : World) (b : Nat) (g : Option Nat) (s : Option (List Int)) : Prop :=
  ∃ A c, w.heap[b]? = some (.cells #[.slice A (left s).length c, .bool s.isNone] 106 (0, 0)) ∧ A.map Addr.block = g ∧ Rd w A (iv .u8 (left s)) ∧ (left s).length ≤ c ∧ c ≤ 9223372036854775807 ∧
    (A = none → c = 0) ∧ g ≠ some b ∧ Wf (left s)
/-- Behind a call of a Reader's. -/
def RdrPost (b : Nat) (g : Option Nat) (val : Value) (s : Option (List Int)) (w : World) (e : Ending) (w' : World) : Prop :=
  e = .returned val ∧ ∃ g', Rdr w' b g' s ∧ (g' = g ∨ g' = none) ∧ Kp [b] w w'
/-- A new Reader. -/
def NewRdr (xs : List Int) (w : World) (e : Ending) (w' : World) : Prop :=
  ∃ b g, e = .returned (.pointer (some ⟨b, 0, none⟩)) ∧ Rdr w' b g (some xs) ∧ w.heap.size ≤ b ∧ (∀ x, g = some x → w.heap.size ≤ x ∧ x < w'.heap.size) ∧ Kp [] w w'

theorem Rdr.kp {w w1 : World} {b : Nat} {g : Option Nat} {s : Option (List Int)} {S : List Nat} (h : Rdr w b g s) (k : Kp S w w1) (hb : b ∉ S) (hg : ∀ x, g = some x → x ∉ S) : Rdr w1 b g s := by
  obtain ⟨A, c, h1, rfl, h3, h4, h5, h6, h7, h8⟩ := h
  exact ⟨A, c, k.blk h1 hb, rfl, k.rd h3 (fun a ha => hg _ (by simp [ha])), h4, h5, h6, h7, h8⟩
theorem Rdr.lt {w : World} {b : Nat} {g : Option Nat} {s : Option (List Int)} (h : Rdr w b g s) : b < w.heap.size := by
  obtain ⟨A, c, h1, _⟩ := h
  exact lt_of_block h1

theorem stNum_none {s : Option (List Int)} (h : dec (left s) = none) : stNum s = (0, none) := by
  cases s with
  | none => rfl
  | some l => simp only [left, Option.getD_some] at h; simp [stNum, h]
theorem stNum_some {s : Option (List Int)} {v : Nat} {r : List Int} (h : dec (left s) = some (v, r)) : stNum s = (v, some r) := by
  cases s with
  | none => simp [left, dec, decF] at h
  | some l => simp only [left, Option.getD_some] at h; simp [stNum, h]
theorem num_fail {b : Nat} {g : Option Nat} {s : Option (List Int)} {xs : List Int} {w w1 : World} (hx : xs = left s) (hd : decF 0 0 xs = none) (h : RdrPost b g (.tuple #[]) none w (.returned (.tuple #[])) w1) :
    RdrPost b g (.int .i64 ((stNum s).1 : Int)) (stNum s).2 w (.returned (.int .i64 0)) w1 := by
  subst hx
  rw [stNum_none hd]
  exact ⟨rfl, h.2⟩

theorem num_ok {b k c c' u1 : Nat} {a a' : Addr} {s : Option (List Int)} {xs : List Int} {w : World} (hb : w.heap[b]? = some (.cells #[.slice (some a) xs.length c, .bool s.isNone] 106 (0, 0)))
    (hR : Rdr w b (some a.block) s) (hx : xs = left s) (hd : decF 0 0 xs = some (u1, xs.drop (k + 1))) (hr : Rd w (some a') (iv .u8 (xs.drop (k + 1)))) (ha : a'.block = a.block) (hl : xs.length - (k + 1) ≤ c') (hc : c' ≤ 9223372036854775807) :
    RdrPost b (some a.block) (.int .i64 ((stNum s).1 : Int)) (stNum s).2 w (.returned (.int .i64 (u1 : Int))) (w.setCell ⟨b, 0, none⟩ (.slice (some a') (xs.length - (k + 1)) c')) := by
  obtain ⟨_, _, _, _, _, _, _, _, hne, hw⟩ := hR
  subst hx
  rw [stNum_some hd]
  have hs : s.isNone = false := by
    cases s with
    | none => simp [left, decF] at hd
    | some l => rfl
  rw [hs] at hb
  have hk := (Kp.refl [b] w).setCell (a := ⟨b, 0, none⟩) (.inl (by simp)) (.slice (some a') ((left s).length - (k + 1)) c')
  refine ⟨rfl, some a.block, ⟨some a', c', ?_, by simp [ha], ?_, by simpa [left] using hl, hc, by simp, hne, hw.drop _⟩, .inl rfl, hk⟩
  · have := heap_setCell_same w b 0 _ _ (.slice (some a') ((left s).length - (k + 1)) c') hb
    simpa [left] using this
  · exact hk.rd hr (fun x hx => by cases hx; rw [ha]; intro hm; exact hne (by simpa using hm))

theorem left_le {s : Option (List Int)} {m : Nat} (h : (left s).length ≤ m) : (left (stNum s).2).length ≤ m := by
  cases s with
  | none => simpa [stNum] using h
  | some l =>
    simp only [left, Option.getD_some] at h
    cases hd : dec l with
    | none => simp [stNum, hd, left]
    | some p =>
      obtain ⟨v, r⟩ := p
      obtain ⟨q, e, _⟩ := dec_suffix hd
      simp only [stNum, hd, left, Option.getD_some]
      have := congrArg List.length e
      simp only [List.length_append] at this
      omega

/-- Nothing went wrong, and nothing is left. -/
def whole (s : Option (List Int)) : Bool := s == some []
theorem left_map (s : Option (List Int)) (n : Nat) : left (s.map (·.drop n)) = (left s).drop n := by cases s <;> simp [left]
theorem Rdr.cut {b n c c' : Nat} {a a' : Addr} {s : Option (List Int)} {w : World} (hb : w.heap[b]? = some (.cells #[.slice (some a) (left s).length c, .bool s.isNone] 106 (0, 0)))
    (hne : some a.block ≠ some b) (hw : Wf (left s)) (hr : Rd w (some a') (iv .u8 ((left s).drop n))) (ha : a'.block = a.block) (hl : (left s).length - n ≤ c') (hc : c' ≤ 9223372036854775807) :
    Rdr (w.setCell ⟨b, 0, none⟩ (.slice (some a') ((left s).length - n) c')) b (some a.block) (s.map (·.drop n)) ∧ Kp [b] w (w.setCell ⟨b, 0, none⟩ (.slice (some a') ((left s).length - n) c')) := by
  have hk := (Kp.refl [b] w).setCell (a := ⟨b, 0, none⟩) (.inl (by simp)) (.slice (some a') ((left s).length - n) c')
  refine ⟨⟨some a', c', ?_, by simp [ha], ?_, by rw [left_map]; simpa using hl, hc, by simp, hne, by rw [left_map]; exact hw.drop _⟩, hk⟩
  · have := heap_setCell_same w b 0 _ _ (.slice (some a') ((left s).length - n) c') hb
    rw [left_map]
    simpa using this
  · rw [left_map]
    exact hk.rd hr (fun x hx => by cases hx; rw [ha]; intro hm; exact hne (by simpa using hm))

/-- Behind Raw: the bytes that came, in new memory; what the Reader holds. -/
def RawPost (b : Nat) (g : Option Nat) (r : List Int × Option (List Int)) (w : World) (e : Ending) (w' : World) : Prop :=
  ∃ v, e = .returned v ∧ Own 5 .u8 w' w.heap.size v r.1 ∧ ∃ g', Rdr w' b g' r.2 ∧ (g' = g ∨ g' = none) ∧ Kp [b] w w'

theorem stRaw_bad {s : Option (List Int)} {n : Int} (h : n < 0 ∨ ((left s).length : Int) < n) : stRaw n s = ([], none) := by
  cases s with
  | none => rfl
  | some l => simp only [stRaw]; rw [if_pos (by simpa [left] using h)]
theorem stRaw_good {s : Option (List Int)} {m : Nat} (h : m ≤ (left s).length) : stRaw (m : Int) s = ((left s).take m, s.map (·.drop m)) := by
  cases s with
  | none => simp [stRaw, left]
  | some l => simp only [stRaw]; rw [if_neg (by simp [left] at h ⊢; omega)]; simp [left]

theorem raw_ok {b m c c' len : Nat} {a a' : Addr} {s : Option (List Int)} {w w1 : World} {v : Value} (hR : Rdr w b (some a.block) s) (hl : (left s).length = len)
    (hb1 : w1.heap[b]? = some (.cells #[.slice (some a) len c, .bool s.isNone] 106 (0, 0))) (ho : Own 5 .u8 w1 w.heap.size v ((left s).take m)) (hk : Kp [] w w1)
    (hr : Rd w (some a') (iv .u8 ((left s).drop m))) (ha : a'.block = a.block) (hle : len - m ≤ c') (hc : c' ≤ 9223372036854775807) :
    RawPost b (some a.block) ((left s).take m, s.map (·.drop m)) w (.returned v) (w1.setCell ⟨b, 0, none⟩ (.slice (some a') (len - m) c')) := by
  have hlt := hR.lt
  obtain ⟨_, _, _, _, _, _, _, _, hne, hw⟩ := hR
  subst hl
  obtain ⟨h1, h2⟩ := Rdr.cut (n := m) (a' := a') (c' := c') hb1 hne hw (hk.rd hr (fun _ _ => by simp)) ha hle hc
  refine ⟨v, rfl, ho.kp h2 ?_, some a.block, h1, .inl rfl, (hk.mono (by simp)).trans h2 (fun x hx => .inl hx)⟩
  intro g hg
  have := ho.2 g hg
  simp
  omega

theorem raw_nil {b : Nat} {s : Option (List Int)} {w w1 : World} {v : Value} (hR : Rdr w b none s) (hl : (left s).length = 0)
    (hb1 : w1.heap[b]? = some (.cells #[.slice none 0 0, .bool s.isNone] 106 (0, 0))) (ho : Own 5 .u8 w1 w.heap.size v ((left s).take 0)) (hk : Kp [] w w1) :
    RawPost b none ((left s).take 0, s.map (·.drop 0)) w (.returned v) (w1.setCell ⟨b, 0, none⟩ (.slice none 0 0)) := by
  have hlt := hR.lt
  have e : s.map (·.drop 0) = s := by cases s <;> simp
  have e0 : left s = [] := List.eq_nil_of_length_eq_zero hl
  have h2 := (Kp.refl [b] w1).setCell (a := ⟨b, 0, none⟩) (.inl (by simp)) (.slice none 0 0)
  rw [e]
  refine ⟨v, rfl, ho.kp h2 ?_, none, ⟨none, 0, ?_, rfl, by rw [e0]; exact Rd.nil _ _, by show (left s).length ≤ 0; omega, by omega, fun _ => rfl, by simp, by rw [e0]; exact Wf.nil⟩, .inl rfl, (hk.mono (by simp)).trans h2 (fun x hx => .inl hx)⟩
  · intro g hg
    have := ho.2 g hg
    simp
    omega
  · have := heap_setCell_same w1 b 0 _ _ (.slice none 0 0) hb1
    rw [hl]
    simpa using this


/-- Bad's two stores. -/
theorem Rdr.bad {w : World} {b : Nat} {g : Option Nat} {cs : Array Value} {x y : Value} (hcs : cs = #[x, y]) (hb : w.heap[b]? = some (.cells cs 106 (0, 0))) :
    RdrPost b g (.tuple #[]) none w (.returned (.tuple #[])) ((w.setCell ⟨b, 0, none⟩ (.slice none 0 0)).setCell ⟨b, 1, none⟩ (.bool true)) ∧
    RdrPost b g (.tuple #[]) none w (.returned (.tuple #[])) ((w.setCell ⟨b, 1, none⟩ (.bool true)).setCell ⟨b, 0, none⟩ (.slice none 0 0)) := by
  subst hcs
  refine ⟨⟨rfl, none, ⟨none, 0, ?_, rfl, Rd.nil _ _, Nat.le_refl _, by omega, fun _ => rfl, by simp, Wf.nil⟩, .inr rfl, ?_⟩, ⟨rfl, none, ⟨none, 0, ?_, rfl, Rd.nil _ _, Nat.le_refl _, by omega, fun _ => rfl, by simp, Wf.nil⟩, .inr rfl, ?_⟩⟩
  · have h1 := heap_setCell_same w b 0 _ _ (.slice none 0 0) hb
    exact heap_setCell_same _ b 1 _ _ (.bool true) h1
  · exact ((Kp.refl [b] w).setCell (.inl (by simp)) _).setCell (.inl (by simp)) _
  · have h1 := heap_setCell_same w b 1 _ _ (.bool true) hb
    exact heap_setCell_same _ b 0 _ _ (.slice none 0 0) h1
  · exact ((Kp.refl [b] w).setCell (.inl (by simp)) _).setCell (.inl (by simp)) _
theorem RdrPost.none_of {b : Nat} {g g' : Option Nat} {w w1 w2 : World} {v u : Value} (h : RdrPost b g' v none w1 (.returned v) w2) (hg : g' = g ∨ g' = none) (hk : Kp [b] w w1) : RdrPost b g u none w (.returned u) w2 := by
  obtain ⟨_, g2, h1, h2, h3⟩ := h
  refine ⟨rfl, g2, h1, ?_, hk.trans h3 (fun x hx => .inl hx)⟩
  rcases h2 with rfl | rfl
  · exact hg
  · exact .inr rfl

end Go.Proofs.YtdiljpdohmeceaaGreat.refr

/- The document's Reader: Bad, Raw, Num, Bytes, Whole. -/
namespace Go.Proofs.YtdiljpdohmeceaaGreat.refr
open Go.RowKit H O

theorem bad_any (b : Nat) (g : Option Nat) (s : Option (List Int)) (w : World) (hR : Rdr w b g s) :
    Calls Tryz.prog 78 #[.pointer (some ⟨b, 0, none⟩)] w (RdrPost b g (.tuple #[]) none w) := by
  obtain ⟨A, c, hb, rfl, hr, hl, hm, hn, hne, hw⟩ := hR
  have c0 := blk_cell hb 0 rfl
  have c1 := blk_cell hb 1 rfl
  have f0 := blk_free hb 0
  have f1 := blk_free hb 1
  have HB := As.mk (Rdr.bad (g := A.map Addr.block) rfl hb).2
  clear hb hr hl hm hn hne hw
  go_enter Tryz.func78, Tryz.ntmps78
  go_wp2
  go_end0
  exact HB.out

theorem whole_any (b : Nat) (g : Option Nat) (s : Option (List Int)) (w : World) (hR : Rdr w b g s) :
    Calls Tryz.prog 37 #[.pointer (some ⟨b, 0, none⟩)] w fun e w' => e = .returned (.bool (whole s)) ∧ w' = w := by
  obtain ⟨A, c, hb, rfl, _⟩ := hR
  have c0 := blk_cell hb 0 rfl
  have c1 := blk_cell hb 1 rfl
  clear hb
  rcases s with _ | ⟨_ | ⟨x, l⟩⟩
  · go_enter Tryz.func37, Tryz.ntmps37
    go_wp2
    go_ret
    exact ⟨rfl, rfl⟩
  · go_enter Tryz.func37, Tryz.ntmps37
    go_wp2
    go_ret
    exact ⟨rfl, rfl⟩
  · have hl : (((left (some (x :: l))).length : Int) == 0) = false := by simp [left]; omega
    go_enter Tryz.func37, Tryz.ntmps37
    go_wp2
    go_ret
    exact ⟨rfl, rfl⟩

set_option maxHeartbeats 4000000 in
theorem raw_any (b : Nat) (g : Option Nat) (s : Option (List Int)) (n : Int) (w : World) (hR : Rdr w b g s) (hb : (left s).length ≤ 140737488351232) :
    Calls Tryz.prog 34 #[.pointer (some ⟨b, 0, none⟩), .int .i64 n] w (RawPost b g (stRaw n s) w) := by
  have HBAD := As.mk (bad_any b g s w hR)
  have HRR := As.mk hR
  obtain ⟨A, c, hb0, rfl, hr, hl, hm, hn, hne, hw⟩ := hR
  obtain ⟨len, hlen⟩ : ∃ len, (left s).length = len := ⟨_, rfl⟩
  rw [hlen] at hb0 hl hb
  have c0 := blk_cell hb0 0 rfl
  have c1 := blk_cell hb0 1 rfl
  have HB := As.mk hb0
  have HR := As.mk hr
  have HL := As.mk hlen
  have HN := As.mk hn
  clear hb0 hr hn hne hw hlen
  by_cases h0 : n < 0
  · have HS := As.mk (stRaw_bad (s := s) (.inl h0))
    go_enter Tryz.func34, Tryz.ntmps34
    go_wp2_with (go_at_call 78; refine HBAD.out.mono ?_; rintro e w1 HP; obtain rfl := HP.1; have HPA := As.mk HP; obtain ⟨_, g1, ⟨A1, k1, hb1, _⟩, _⟩ := HP; have c11 := blk_cell hb1 1 rfl; clear hb1)
    go_ret
    rw [HS.out]
    exact ⟨_, rfl, Own.nil _ _ _ _, HPA.out.2⟩
  · by_cases h1 : (len : Int) < n
    · have HS := As.mk (stRaw_bad (s := s) (n := n) (.inr (by rw [HL.out]; exact h1)))
      go_enter Tryz.func34, Tryz.ntmps34
      go_wp2_with (go_at_call 78; refine HBAD.out.mono ?_; rintro e w1 HP; obtain rfl := HP.1; have HPA := As.mk HP; obtain ⟨_, g1, ⟨A1, k1, hb1, _⟩, _⟩ := HP; have c11 := blk_cell hb1 1 rfl; clear hb1)
      go_ret
      rw [HS.out]
      exact ⟨_, rfl, Own.nil _ _ _ _, HPA.out.2⟩
    · obtain ⟨m, rfl⟩ := Int.eq_ofNat_of_zero_le (by omega : 0 ≤ n)
      have hml : m ≤ len := by omega
      have hbl := HRR.out.lt
      clear h0 h1
      cases s with
      | none =>
        go_enter Tryz.func34, Tryz.ntmps34
        go_wp2
        go_ret
        exact ⟨_, rfl, Own.nil _ _ _ _, _, HRR.out, .inl rfl, Kp.refl _ _⟩
      | some l =>
        have HS := As.mk (stRaw_good (s := some l) (m := m) (by rw [HL.out]; exact hml))
        cases A with
        | none =>
          have hc := HN.out rfl
          subst hc
          obtain rfl : len = 0 := by omega
          obtain rfl : m = 0 := by omega
          go_enter Tryz.func34, Tryz.ntmps34
          go_wp2_with (at_builtin; refine clone.app8 rfl (.tmp 23) (.tmp 29) rfl (.slice (some ⟨w.heap.size, 0, none⟩) 0 0) 0 [] rfl (own_new w [] _ (Nat.zero_le _)) none 0 0 [] rfl rfl (Rd.nil _ _) (by simp) (by simp) (by omega) ?_; intro v1 w1 o1 k1 a1; obtain ⟨A1, c1', rfl, _⟩ := own_rd o1; have ho := own_of_app (k := .u8) (lo := w.heap.size) (ys := []) rfl o1 a1 (by simp) (by simp [Value.ownBlock]); have hk := kp_of_new k1; have hb1 := hk.blk HB.out (by simp); have c01 := blk_cell hb1 0 rfl; have f01 := blk_free hb1 0; have HO := As.mk ho; have HK := As.mk hk; have HB1 := As.mk hb1; clear o1 k1 a1 ho hk hb1)
          go_ret
          show RawPost _ _ (stRaw ((0 : Nat) : Int) (some l)) _ _ _
          rw [HS.out]
          exact raw_nil HRR.out HL.out HB1.out (by simpa using HO.out) HK.out
        | some a =>
          go_enter Tryz.func34, Tryz.ntmps34
          go_wp2_with (at_builtin; refine clone.app8 rfl (.tmp 23) (.tmp 29) rfl (.slice (some ⟨w.heap.size, 0, none⟩) 0 0) 0 [] rfl (own_new w [] _ (Nat.zero_le _)) (some a) m c (iv .u8 (l.take m)) rfl (by rw [iv_len, List.length_take]; have h9 := HL.out; simp only [left, Option.getD_some] at h9; omega) (((Kp.refl [] w).alloc _).rd_new (by rw [← iv_take]; exact HR.out.take m) (by simp)) (by simp) (iv_one _ _) (by omega) ?_; intro v1 w1 o1 k1 a1; obtain ⟨A1, c1', rfl, _⟩ := own_rd o1; have ho := own_of_app (k := .u8) (lo := w.heap.size) (ys := l.take m) (by rw [List.length_take]; have h9 := HL.out; simp only [left, Option.getD_some] at h9; omega) o1 a1 (by simp) (by simp [Value.ownBlock]); have hk := kp_of_new k1; have hb1 := hk.blk HB.out (by simp); have c01 := blk_cell hb1 0 rfl; have f01 := blk_free hb1 0; have HO := As.mk ho; have HK := As.mk hk; have HB1 := As.mk hb1; clear o1 k1 a1 ho hk hb1)
          all_goals go_ret
          all_goals rw [HS.out]
          · exact raw_ok HRR.out HL.out HB1.out (by have h9 := HO.out; rw [Nat.zero_add] at h9; exact h9) HK.out (a' := a) (by rw [← iv_drop, List.drop_of_length_le (by rw [iv_len, HL.out]; omega)]; exact Rd.nil _ _) rfl (by omega) (by omega)
          · exact raw_ok HRR.out HL.out HB1.out (by have h9 := HO.out; rw [Nat.zero_add] at h9; exact h9) HK.out (a' := a.add m) (by rw [← iv_drop]; exact HR.out.drop _) (add_block _ _) (by omega) (by omega)

end Go.Proofs.YtdiljpdohmeceaaGreat.refr

/- The document's Reader: Num, Bytes. -/
namespace Go.Proofs.YtdiljpdohmeceaaGreat.refr
open Go.RowKit H O

/-- What Num comes to from digit i on. -/
def cont (i u : Nat) (s : Option (List Int)) : Nat × Option (List Int) :=
  match s with
  | none => (0, none)
  | some l => match decF i u l with
    | none => (0, none)
    | some (v, r) => (v, some r)
theorem cont_zero (s : Option (List Int)) : stNum s = cont 0 0 s := rfl
theorem stRaw_cons (c : Int) (r : List Int) : stRaw 1 (some (c :: r)) = ([c], some r) := by
  simp only [stRaw]
  rw [if_neg (by simp only [List.length_cons]; omega)]
  rfl
theorem stRaw_empty : stRaw 1 (some []) = ([], none) := rfl
theorem cont_none {i u : Nat} {l : List Int} (h : decF i u l = none) : cont i u (some l) = (0, none) := by simp only [cont, h]
theorem cont_some {i u v : Nat} {l r : List Int} (h : decF i u l = some (v, r)) : cont i u (some l) = (v, some r) := by simp only [cont, h]
theorem cont_step {i u u' i' : Nat} {l r : List Int} (h : decF i u l = decF i' u' r) : cont i u (some l) = cont i' u' (some r) := by simp only [cont, h]

/-- What a round of Num knows. -/
def At1 (b : Nat) (g : Option Nat) (s : Option (List Int)) (w : World) (i u : Nat) (s' : Option (List Int)) (wr : World) : Prop :=
  stNum s = cont i u s' ∧ u < 128 ^ i ∧ (left s').length ≤ 140737488351232 ∧ ∃ g', Rdr wr b g' s' ∧ (g' = g ∨ g' = none) ∧ Kp [b] w wr

theorem fail_of {b : Nat} {g g1 g2 : Option Nat} {s : Option (List Int)} {w wr w1 : World} (h : stNum s = (0, none)) (HP : Rdr w1 b g2 none ∧ (g2 = g1 ∨ g2 = none) ∧ Kp [b] wr w1) (hg : g1 = g ∨ g1 = none) (hk : Kp [b] w wr) :
    RdrPost b g (.int .i64 ((stNum s).1 : Int)) (stNum s).2 w (.returned (.int .i64 0)) w1 := by
  rw [h]
  obtain ⟨h1, h2, h3⟩ := HP
  refine ⟨rfl, g2, h1, ?_, hk.trans h3 (fun x hx => .inl hx)⟩
  rcases h2 with rfl | rfl
  · exact hg
  · exact .inr rfl
theorem fail_bad {b : Nat} {g g1 g2 : Option Nat} {s s' : Option (List Int)} {w wr w1 w2 : World} (h : stNum s = (0, none)) (HP : Rdr w1 b g2 s' ∧ (g2 = g1 ∨ g2 = none) ∧ Kp [b] wr w1) (hg : g1 = g ∨ g1 = none) (hk : Kp [b] w wr)
    (hB : RdrPost b g2 (.tuple #[]) none w1 (.returned (.tuple #[])) w2) : RdrPost b g (.int .i64 ((stNum s).1 : Int)) (stNum s).2 w (.returned (.int .i64 0)) w2 := by
  obtain ⟨_, h2, h3⟩ := HP
  obtain ⟨_, g3, b1, b2, b3⟩ := hB
  refine fail_of h (g2 := g3) ⟨b1, ?_, h3.trans b3 (fun x hx => .inl hx)⟩ hg hk
  rcases b2 with rfl | rfl
  · exact h2
  · exact .inr rfl
theorem ok_of {b u : Nat} {g g1 g2 : Option Nat} {s : Option (List Int)} {r : List Int} {w wr w1 : World} (h : stNum s = (u, some r)) (HP : Rdr w1 b g2 (some r) ∧ (g2 = g1 ∨ g2 = none) ∧ Kp [b] wr w1) (hg : g1 = g ∨ g1 = none) (hk : Kp [b] w wr) :
    RdrPost b g (.int .i64 ((stNum s).1 : Int)) (stNum s).2 w (.returned (.int .i64 (u : Int))) w1 := by
  rw [h]
  obtain ⟨h1, h2, h3⟩ := HP
  refine ⟨rfl, g2, h1, ?_, hk.trans h3 (fun x hx => .inl hx)⟩
  rcases h2 with rfl | rfl
  · exact hg
  · exact .inr rfl
theorem next_of {b k u : Nat} {g g1 g2 : Option Nat} {s : Option (List Int)} {c : Int} {r : List Int} {w wr w1 : World} (h : stNum s = cont k u (some r)) (hu : u < 128 ^ k) (hl : (left (some (c :: r))).length ≤ 140737488351232)
    (HP : Rdr w1 b g2 (some r) ∧ (g2 = g1 ∨ g2 = none) ∧ Kp [b] wr w1) (hg : g1 = g ∨ g1 = none) (hk : Kp [b] w wr) : At1 b g s w k u (some r) w1 := by
  obtain ⟨h1, h2, h3⟩ := HP
  refine ⟨h, hu, by simp only [left, Option.getD_some, List.length_cons] at hl ⊢; omega, g2, h1, ?_, hk.trans h3 (fun x hx => .inl hx)⟩
  rcases h2 with rfl | rfl
  · exact hg
  · exact .inr rfl
theorem big_bits (u : Nat) (h : u < 9223372036854775808) : 4611686018427387904 < bits .or .u64 (u : Int) (IntKind.u64.wrap (IntKind.u64.wrap (bits .and .u8 1 127) * 9223372036854775808)) := by
  have e : IntKind.u64.wrap (IntKind.u64.wrap (bits .and .u8 1 127) * 9223372036854775808) = ((9223372036854775808 : Nat) : Int) := by decide +kernel
  rw [e, bits_or_u64_nat _ _ (by omega) (by omega)]
  have : 9223372036854775808 ≤ u ||| 9223372036854775808 := Nat.right_le_or
  omega

set_option maxHeartbeats 8000000 in
set_option maxRecDepth 100000 in
theorem num_any (b : Nat) (g : Option Nat) (s : Option (List Int)) (w : World) (hR : Rdr w b g s) (hb : (left s).length ≤ 140737488351232) :
    Calls Tryz.prog 35 #[.pointer (some ⟨b, 0, none⟩)] w (RdrPost b g (.int .i64 ((stNum s).1 : Int)) (stNum s).2 w) := by
  have H0 : As (At1 b g s w 0 0 s w) := ⟨cont_zero s, by decide, hb, g, hR, .inl rfl, Kp.refl _ _⟩
  clear hR hb
  go_enter Tryz.func35, Tryz.ntmps35
  go_wp2
  go_loopw [3, 4] (fun u i wr => ∃ k u0 : Nat, i = .int .i64 (k : Int) ∧ u = .int .u64 (u0 : Int) ∧ k ≤ 9 ∧ (∃ s', At1 b g s w k u0 s' wr)) (fun _ i _ => 10 - (intOf i).toNat)
  case atStart => exact ⟨0, 0, rfl, rfl, by omega, _, H0.out⟩
  case round =>
    obtain ⟨k, u0, rfl, rfl, hk, s', hN, hU, hL, g1, R1, G1, K1⟩ := hrel
    have HWF : As (Wf (left s')) := ⟨by obtain ⟨_, _, _, _, _, _, _, _, _, h⟩ := R1; exact h⟩
    have HN := As.mk hN
    have HU := As.mk hU
    have HL := As.mk hL
    have HG1 := As.mk G1
    have HK1 := As.mk K1
    have HRW := As.mk (raw_any b g1 s' 1 wr R1 hL)
    clear hN hU hL R1 G1 K1
    rcases s' with _ | ⟨_ | ⟨c, r⟩⟩
    · go_wp2_with (go_at_call 34; refine HRW.out.mono ?_; rintro e w1 ⟨v, rfl, O2, g2, R2, G2, K2⟩; obtain ⟨A2, c2, hb2, _⟩ := id R2; have c21 := blk_cell hb2 1 rfl; have HP := As.mk (And.intro R2 (And.intro G2 K2)); clear O2 R2 G2 K2 hb2)
      go_ret
      exact fail_of HN.out HP.out HG1.out HK1.out
    · go_wp2_with (go_at_call 34; refine HRW.out.mono ?_; rintro e w1 ⟨v, rfl, O2, g2, R2, G2, K2⟩; obtain ⟨A2, c2, hb2, _⟩ := id R2; have c21 := blk_cell hb2 1 rfl; have HP := As.mk (And.intro R2 (And.intro G2 K2)); clear O2 R2 G2 K2 hb2)
      go_ret
      exact fail_of HN.out HP.out HG1.out HK1.out
    · have hc := HWF.out c (by simp [left])
      by_cases h9 : k = 9
      · subst h9
        have HF : As (stNum s = (0, none)) := ⟨by rw [HN.out]; exact cont_none (by rw [decF, if_pos (.inl (Nat.le_refl 9))])⟩
        have hcase : 127 < c ∨ (¬ 127 < c ∧ 1 < c) ∨ c = 0 ∨ c = 1 := by omega
        rcases hcase with h1 | ⟨h1, h2⟩ | rfl | rfl
        · go_wp2_with (first
            | (go_at_call 34; refine HRW.out.mono ?_; rw [stRaw_cons]; rintro e w1 ⟨v, rfl, O2, g2, R2, G2, K2⟩; obtain ⟨A2, c2, hb2, _⟩ := id R2; have c21 := blk_cell hb2 1 rfl; obtain ⟨gx, capx, rfl, _, _⟩ := own_form O2.1 (by simp); have dx := one_cell O2; have HP := As.mk (And.intro R2 (And.intro G2 K2)); clear O2 R2 G2 K2 hb2)
            | (go_at_call 78; refine (bad_any b g2 (some r) _ HP.out.1).mono ?_; rintro e w2 HB; obtain rfl := HB.1; have HB2 := As.mk HB; clear HB))
          go_ret
          exact fail_bad HF.out HP.out HG1.out HK1.out HB2.out
        · go_wp2_with (first
            | (go_at_call 34; refine HRW.out.mono ?_; rw [stRaw_cons]; rintro e w1 ⟨v, rfl, O2, g2, R2, G2, K2⟩; obtain ⟨A2, c2, hb2, _⟩ := id R2; have c21 := blk_cell hb2 1 rfl; obtain ⟨gx, capx, rfl, _, _⟩ := own_form O2.1 (by simp); have dx := one_cell O2; have HP := As.mk (And.intro R2 (And.intro G2 K2)); clear O2 R2 G2 K2 hb2)
            | (go_at_call 78; refine (bad_any b g2 (some r) _ HP.out.1).mono ?_; rintro e w2 HB; obtain rfl := HB.1; have HB2 := As.mk HB; clear HB))
          go_ret
          exact fail_bad HF.out HP.out HG1.out HK1.out HB2.out
        · go_wp2_with (first
            | (go_at_call 34; refine HRW.out.mono ?_; rw [stRaw_cons]; rintro e w1 ⟨v, rfl, O2, g2, R2, G2, K2⟩; obtain ⟨A2, c2, hb2, _⟩ := id R2; have c21 := blk_cell hb2 1 rfl; obtain ⟨gx, capx, rfl, _, _⟩ := own_form O2.1 (by simp); have dx := one_cell O2; have HP := As.mk (And.intro R2 (And.intro G2 K2)); clear O2 R2 G2 K2 hb2)
            | (go_at_call 78; refine (bad_any b g2 (some r) _ HP.out.1).mono ?_; rintro e w2 HB; obtain rfl := HB.1; have HB2 := As.mk HB; clear HB))
          go_ret
          exact fail_bad HF.out HP.out HG1.out HK1.out HB2.out
        · have hbig := big_bits u0 (by have h7 := HU.out; have h8 : (128 : Nat) ^ 9 = 9223372036854775808 := by decide
                                       omega)
          go_wp2_with (first
            | (go_at_call 34; refine HRW.out.mono ?_; rw [stRaw_cons]; rintro e w1 ⟨v, rfl, O2, g2, R2, G2, K2⟩; obtain ⟨A2, c2, hb2, _⟩ := id R2; have c21 := blk_cell hb2 1 rfl; obtain ⟨gx, capx, rfl, _, _⟩ := own_form O2.1 (by simp); have dx := one_cell O2; have HP := As.mk (And.intro R2 (And.intro G2 K2)); clear O2 R2 G2 K2 hb2)
            | (go_at_call 78; refine (bad_any b g2 (some r) _ HP.out.1).mono ?_; rintro e w2 HB; obtain rfl := HB.1; have HB2 := As.mk HB; clear HB))
          go_ret
          exact fail_bad HF.out HP.out HG1.out HK1.out HB2.out
      · have hk8 : k ≤ 8 := by omega
        have hlen : ¬ 9 ≤ k := by omega
        obtain ⟨u1, hu1⟩ : ∃ u1 : Nat, u1 = u0 + c.toNat % 128 * 128 ^ k := ⟨_, rfl⟩
        have hbit := num_bits u0 k c hc.1 hc.2 hk8 HU.out
        rw [← hu1] at hbit
        have HU1 := As.mk hu1
        have HD : As (decF k u0 (c :: r) = if 9 ≤ k ∨ (0 < k ∧ c = 0) then none else if c < 128 then (if 4611686018427387904 < u0 + c.toNat * 128 ^ k then none else some (u0 + c.toNat * 128 ^ k, r)) else decF (k + 1) (u0 + (c.toNat - 128) * 128 ^ k) r) := ⟨by rw [decF]⟩
        clear hu1
        by_cases h127 : 127 < c
        · have HF : As (stNum s = cont (k + 1) u1 (some r)) := by
            constructor
            have e1 : c.toNat % 128 = c.toNat - 128 := by omega
            rw [HN.out]
            exact cont_step (by rw [HD.out, if_neg (by omega), if_neg (by omega), HU1.out, e1])
          have HB1 : As (u1 < 128 ^ (k + 1)) := by
            constructor
            rw [HU1.out, Nat.pow_succ]
            have h1 : c.toNat % 128 * 128 ^ k ≤ 127 * 128 ^ k := Nat.mul_le_mul_right _ (by omega)
            have h2 := HU.out
            omega
          go_wp2_with (first
            | (go_at_call 34; refine HRW.out.mono ?_; rw [stRaw_cons]; rintro e w1 ⟨v, rfl, O2, g2, R2, G2, K2⟩; obtain ⟨A2, c2, hb2, _⟩ := id R2; have c21 := blk_cell hb2 1 rfl; obtain ⟨gx, capx, rfl, _, _⟩ := own_form O2.1 (by simp); have dx := one_cell O2; have HP := As.mk (And.intro R2 (And.intro G2 K2)); clear O2 R2 G2 K2 hb2)
            | (go_at_call 78; refine (bad_any b g2 (some r) _ HP.out.1).mono ?_; rintro e w2 HB; obtain rfl := HB.1; have HB2 := As.mk HB; clear HB))
          go_roundw
          case rel => exact ⟨k + 1, u1, by go_num, rfl, by omega, _, next_of HF.out HB1.out HL.out HP.out HG1.out HK1.out⟩
          case measure => simp [intOf]; omega
        · have HE : As (u0 + c.toNat * 128 ^ k = u1) := by
            constructor
            have e1 : c.toNat % 128 = c.toNat := by omega
            rw [HU1.out, e1]
          by_cases h0 : 0 < k ∧ c = 0
          · obtain ⟨h0k, rfl⟩ := h0
            have HF : As (stNum s = (0, none)) := ⟨by rw [HN.out]; exact cont_none (by rw [HD.out, if_pos (.inr ⟨h0k, rfl⟩)])⟩
            go_wp2_with (first
            | (go_at_call 34; refine HRW.out.mono ?_; rw [stRaw_cons]; rintro e w1 ⟨v, rfl, O2, g2, R2, G2, K2⟩; obtain ⟨A2, c2, hb2, _⟩ := id R2; have c21 := blk_cell hb2 1 rfl; obtain ⟨gx, capx, rfl, _, _⟩ := own_form O2.1 (by simp); have dx := one_cell O2; have HP := As.mk (And.intro R2 (And.intro G2 K2)); clear O2 R2 G2 K2 hb2)
            | (go_at_call 78; refine (bad_any b g2 (some r) _ HP.out.1).mono ?_; rintro e w2 HB; obtain rfl := HB.1; have HB2 := As.mk HB; clear HB))
            go_ret
            exact fail_bad HF.out HP.out HG1.out HK1.out HB2.out
          · have hcase : ¬ 0 < k ∨ (0 < k ∧ (c == 0) = false) := by
              by_cases hk0 : 0 < k
              · exact .inr ⟨hk0, by rw [beq_eq_false_iff_ne]; omega⟩
              · exact .inl hk0
            have HN0 : As (¬ (9 ≤ k ∨ (0 < k ∧ c = 0))) := ⟨by omega⟩
            clear h0
            by_cases hbig : 4611686018427387904 < u1
            · have HF : As (stNum s = (0, none)) := ⟨by rw [HN.out]; exact cont_none (by rw [HD.out, if_neg HN0.out, if_pos (by omega), HE.out, if_pos hbig])⟩
              obtain g2' | ⟨g2', g3'⟩ := hcase
              all_goals
                go_wp2_with (first
            | (go_at_call 34; refine HRW.out.mono ?_; rw [stRaw_cons]; rintro e w1 ⟨v, rfl, O2, g2, R2, G2, K2⟩; obtain ⟨A2, c2, hb2, _⟩ := id R2; have c21 := blk_cell hb2 1 rfl; obtain ⟨gx, capx, rfl, _, _⟩ := own_form O2.1 (by simp); have dx := one_cell O2; have HP := As.mk (And.intro R2 (And.intro G2 K2)); clear O2 R2 G2 K2 hb2)
            | (go_at_call 78; refine (bad_any b g2 (some r) _ HP.out.1).mono ?_; rintro e w2 HB; obtain rfl := HB.1; have HB2 := As.mk HB; clear HB))
                go_ret
                exact fail_bad HF.out HP.out HG1.out HK1.out HB2.out
            · have HF : As (stNum s = (u1, some r)) := ⟨by rw [HN.out]; exact cont_some (by rw [HD.out, if_neg HN0.out, if_pos (by omega), HE.out, if_neg hbig])⟩
              obtain g2' | ⟨g2', g3'⟩ := hcase
              all_goals
                go_wp2_with (first
            | (go_at_call 34; refine HRW.out.mono ?_; rw [stRaw_cons]; rintro e w1 ⟨v, rfl, O2, g2, R2, G2, K2⟩; obtain ⟨A2, c2, hb2, _⟩ := id R2; have c21 := blk_cell hb2 1 rfl; obtain ⟨gx, capx, rfl, _, _⟩ := own_form O2.1 (by simp); have dx := one_cell O2; have HP := As.mk (And.intro R2 (And.intro G2 K2)); clear O2 R2 G2 K2 hb2)
            | (go_at_call 78; refine (bad_any b g2 (some r) _ HP.out.1).mono ?_; rintro e w2 HB; obtain rfl := HB.1; have HB2 := As.mk HB; clear HB))
                go_ret
                exact ok_of HF.out HP.out HG1.out HK1.out


theorem num_suffix_left {s : Option (List Int)} {m : Nat} (h : (left s).length ≤ m) : (left (stNum s).2).length ≤ m := left_le h
theorem raw_of_none (n : Int) : stRaw n none = ([], none) := rfl

/-- Bytes -/
theorem bytes_any (b : Nat) (g : Option Nat) (s : Option (List Int)) (w : World) (hR : Rdr w b g s) (hb : (left s).length ≤ 140737488351232) :
    Calls Tryz.prog 36 #[.pointer (some ⟨b, 0, none⟩)] w (RawPost b g (stBytes s) w) := by
  have HN := As.mk (num_any b g s w hR hb)
  have HL := As.mk (left_le hb)
  clear hR
  obtain ⟨⟨v, s2⟩, hv⟩ : ∃ p, p = stNum s := ⟨_, rfl⟩
  have HV := As.mk hv
  rw [← hv] at HN HL
  clear hv
  cases s2 with
  | none =>
    have HE : As (stBytes s = ([], none)) := ⟨by rw [stBytes, ← HV.out]; rfl⟩
    go_enter Tryz.func36, Tryz.ntmps36
    go_wp2_with (go_at_call 35; refine HN.out.mono ?_; rintro e w1 HP; obtain rfl := HP.1; obtain ⟨_, g1, R1, G1, K1⟩ := HP; obtain ⟨A2, c2, hb2, _⟩ := id R1; have c21 := blk_cell hb2 1 rfl; have HP1 := As.mk (And.intro R1 (And.intro G1 K1)); clear R1 G1 K1 hb2)
    go_ret
    rw [HE.out]
    exact ⟨_, rfl, Own.nil _ _ _ _, g1, HP1.out⟩
  | some r =>
    go_enter Tryz.func36, Tryz.ntmps36
    go_wp2_with (first
      | (go_at_call 35; refine HN.out.mono ?_; rintro e w1 HP; obtain rfl := HP.1; obtain ⟨_, g1, R1, G1, K1⟩ := HP; obtain ⟨A2, c2, hb2, _⟩ := id R1; have c21 := blk_cell hb2 1 rfl; have HG1 := As.mk G1; have HK1 := As.mk K1; have HRW := As.mk (raw_any b g1 (some r) (v : Int) w1 R1 HL.out); clear R1 G1 K1 hb2)
      | (go_at_call 34; refine HRW.out.mono ?_; rintro e w2 ⟨v2, rfl, O2, g2, R2, G2, K2⟩; have HP2 := As.mk (And.intro O2 (And.intro R2 (And.intro G2 K2))); clear O2 R2 G2 K2))
    go_ret
    obtain ⟨O2, R2, G2, K2⟩ := HP2.out
    have HE : stBytes s = stRaw (v : Int) (some r) := by rw [stBytes, ← HV.out]
    rw [HE]
    refine ⟨v2, rfl, O2.lower HK1.out.size, g2, R2, ?_, HK1.out.trans K2 (fun x hx => .inl hx)⟩
    rcases G2 with rfl | rfl
    · exact HG1.out
    · exact .inr rfl

end Go.Proofs.YtdiljpdohmeceaaGreat.refr

/- Places that are read: how a round stands (Reader of reader); append of a place. -/
namespace Go.Proofs.YtdiljpdohmeceaaGreat.reader
open Go.RowKit H O opk haystacklaw13

theorem info_match : (Tryz.prog.info? 73).map (fun i => (i.zero, i.size, i.bytes)) = some (some (.agg #[.string ⟨#[]⟩, .int .i64 0]), 2, 24) := by kernel_rfl
/-- append of one place -/
theorem appM {w : World} {ops : Array Oper} {rest : List Oper} {o : Oper} {a : Act} {Q : Exit → Act → World → Prop} (hgd : o.guard = none) (s x : Operand)
    (ho : o.op = .call { callee := .builtin .append, args := #[s, x], argTypes := #[59, 59] })
    (v : Value) (n : Nat) (xs : List Value) (hs : a.eval s = v) (hown : w.ownsRow 0 73 2 v n xs) (g : Nat) (key : ByteArray) (y : Int)
    (hx : a.eval x = .slice (some ⟨g, 0, none⟩) 1 1) (hc : PlAt w g key y) (hm : n + 1 ≤ 100000)
    (h : ∀ v' w', w'.ownsRow 0 73 2 v' (n + 1) (xs ++ [.string key, .int .i64 y]) → Kp v.ownBlock.toList w w' → At w.heap.size v.ownBlock v'.ownBlock →
      wpList Tryz.prog ops Q rest (a.put o.dst v') w') : wpList Tryz.prog ops Q (o :: rest) a w :=
  wpList_app hgd s x 59 ho 73 (.agg #[.string ⟨#[]⟩, .int .i64 0]) 2 24 Tryz.underlying59 info_match (by kernel_rfl) (by decide) v n xs hs hown (some ⟨g, 0, none⟩) 1 1 [.string key, .int .i64 y] hx rfl
    (by
      intro j u hj
      match j, hj with
      | 0, hj => simp at hj; subst hj; exact ⟨_, rfl, by rw [add_zero']; exact hc.cells.1⟩
      | 1, hj => simp at hj; subst hj; exact ⟨_, rfl, by rw [Addr.add_lit]; exact hc.cells.2⟩)
    (by simp) (by intro u hu; simp only [List.mem_cons, List.not_mem_nil, or_false] at hu; rcases hu with rfl | rfl <;> rfl) (by omega) (by omega)
    (fun v' w' h1 h2 h3 _ => h v' w' h1 h2 h3)

/-- Where ReadMatches stands. -/
structure MR (w wr : World) (b N0 : Nat) (v : Value) (k : Nat) (l : List (ByteArray × Int)) (s : Option (List Int)) : Prop where
  kp : Kp [] w wr
  own : wr.ownsRow 0 73 2 v k (mv l)
  lo : ∀ y, v.ownBlock = some y → N0 ≤ y
  rdr : ∃ g, Rdr wr b g s ∧ ∀ y, g = some y → y < N0
  ord : w.heap.size ≤ b ∧ b < N0 ∧ N0 ≤ wr.heap.size
theorem MR.skip {w wr w1 : World} {b N0 : Nat} {v : Value} {k : Nat} {l : List (ByteArray × Int)} {s : Option (List Int)} (h : MR w wr b N0 v k l s) (kk : Kp [] wr w1) : MR w w1 b N0 v k l s := by
  obtain ⟨g, hr, hg⟩ := h.rdr
  have := kk.size
  exact ⟨h.kp.trans kk (by simp), kk.own h.own (by simp), h.lo, ⟨g, hr.kp kk (by simp) (by simp), hg⟩, ⟨h.ord.1, h.ord.2.1, Nat.le_trans h.ord.2.2 this⟩⟩
/-- something is taken -/
theorem MR.took {w wr w1 : World} {b N0 : Nat} {v : Value} {k : Nat} {l : List (ByteArray × Int)} {s s' : Option (List Int)} {g g' : Option Nat} (h : MR w wr b N0 v k l s) (hg : ∀ y, g = some y → y < N0) (R : Rdr w1 b g' s') (G : g' = g ∨ g' = none) (kk : Kp [b] wr w1) : MR w w1 b N0 v k l s' := by
  obtain ⟨o1, o2, o3⟩ := h.ord
  have := kk.size
  exact ⟨h.kp.trans kk (by intro x hx; simp at hx; omega), kk.own h.own (fun y hy => by have := h.lo y hy; simp; omega), h.lo, ⟨g', R, fun y hy => by rcases G with e | e; exact hg y (by rw [← e]; exact hy); rw [e] at hy; cases hy⟩, ⟨o1, o2, by omega⟩⟩
/-- a place more -/
theorem MR.put {w wr w2 : World} {b N0 : Nat} {v v' : Value} {k : Nat} {l : List (ByteArray × Int)} {s : Option (List Int)} {m : ByteArray × Int} (h : MR w wr b N0 v k l s) (o : w2.ownsRow 0 73 2 v' (k + 1) (mv l ++ [.string m.1, .int .i64 m.2])) (kk : Kp v.ownBlock.toList wr w2) (a : At wr.heap.size v.ownBlock v'.ownBlock) : MR w w2 b N0 v' (k + 1) (l ++ [m]) s := by
  obtain ⟨o1, o2, o3⟩ := h.ord
  obtain ⟨g, hr, hg⟩ := h.rdr
  have hs := kk.size
  have hS : ∀ i, i < N0 → i ∉ v.ownBlock.toList := fun i hi hm => by have := h.lo i (by simpa using hm); omega
  refine ⟨h.kp.row kk (fun z hz => .inr (by have := h.lo z hz; omega)), by rw [mv_app]; exact o, a.ge o3 h.lo, ⟨g, hr.kp kk (hS _ o2) (fun z hz => hS z (hg z hz)), hg⟩, ⟨o1, o2, by omega⟩⟩
theorem MR.start {w w2 : World} {b : Nat} {g : Option Nat} {s : Option (List Int)} (kp : Kp [] w w2) (R : Rdr w2 b g s) (hg : ∀ y, g = some y → y < w2.heap.size) (hb : w.heap.size ≤ b) : MR w w2 b w2.heap.size (.slice none 0 0) 0 [] s :=
  ⟨kp, World.ownsRow_nil _ 0 _ 2, by simp [Value.ownBlock], ⟨g, R, hg⟩, ⟨hb, R.lt, Nat.le_refl _⟩⟩
/-- a Reader of a slice as it lies -/
theorem MR.box {w : World} {A : Option Addr} {n c : Nat} {xs : List Int} (hn : xs.length = n) (hr : Rd w A (iv .u8 xs)) (hc : n ≤ c) (hc9 : c ≤ 9223372036854775807) (hnil : A = none → c = 0) (hA : ∀ a, A = some a → a.block < w.heap.size) (hw : Wf xs) :
    MR w (w.alloc (.cells #[.slice A n c, .bool false] 186)) w.heap.size (w.heap.size + 1) (.slice none 0 0) 0 [] (some xs) := by
  subst hn
  have hg : ∀ y, A.map Addr.block = some y → y < w.heap.size := by
    intro y hy
    cases A with
    | none => simp at hy
    | some a => simp at hy; rw [← hy]; exact hA a rfl
  refine ⟨(Kp.refl [] w).alloc _, World.ownsRow_nil _ 0 _ 2, by simp [Value.ownBlock], ⟨A.map Addr.block, ⟨A, c, heap_alloc_new w _, rfl, ((Kp.refl [] w).alloc _).rd_new hr (by simp), hc, hc9, hnil, ?_, hw⟩, fun y hy => by have := hg y hy; omega⟩, ⟨Nat.le_refl _, by omega, by simp⟩⟩
  intro e
  have := hg _ e
  omega
theorem MR.err {w wr : World} {b N0 : Nat} {v : Value} {k : Nat} {l : List (ByteArray × Int)} {s : Option (List Int)} (h : MR w wr b N0 v k l s) : wr.cell? ⟨b, 1, none⟩ = some (.bool s.isNone) := by
  obtain ⟨g, ⟨A, c, h1, _⟩, _⟩ := h.rdr
  exact blk_cell h1 1 rfl
/-- Bytes -/
theorem take_bytes {w wr : World} {b N0 : Nat} {v : Value} {k : Nat} {l : List (ByteArray × Int)} {s s4 : Option (List Int)} {p : List Int} (h : MR w wr b N0 v k l s) (hl : (left s).length ≤ 140737488351232) (hs : stBytes s = (p, s4)) :
    Calls Tryz.prog 88 #[.pointer (some ⟨b, 0, none⟩)] wr fun e w5 => ∃ A5 n5 c5, e = .returned (.slice A5 n5 c5) ∧ p.length = n5 ∧ MR w w5 b N0 v k l s4 ∧ (∀ w6, Kp [b] w5 w6 → Rd w6 A5 (iv .u8 p)) ∧ Kp [b] wr w5 := by
  obtain ⟨g, R, hg⟩ := h.rdr
  refine (bytes_any b g s wr R hl).mono ?_
  rw [hs]
  rintro e w5 ⟨v5, rfl, O, g5, R5, G5, K5⟩
  have O' := O
  obtain ⟨A5, c5, rfl, _, _, r5, _⟩ := own_rd O.1
  refine ⟨A5, _, c5, rfl, rfl, h.took hg R5 G5 K5, fun w6 k6 => k6.rd r5 ?_, K5⟩
  intro a ha hm
  have h1 := O'.2 a.block (by rw [ha]; rfl)
  have h2 := h.ord
  simp at hm
  omega
/-- Num -/
theorem take_num {w wr : World} {b N0 : Nat} {v : Value} {k : Nat} {l : List (ByteArray × Int)} {s s4 : Option (List Int)} {y : Nat} (h : MR w wr b N0 v k l s) (hl : (left s).length ≤ 140737488351232) (hs : stNum s = (y, s4)) :
    Calls Tryz.prog 87 #[.pointer (some ⟨b, 0, none⟩)] wr fun e w5 => e = .returned (.int .i64 (y : Int)) ∧ MR w w5 b N0 v k l s4 ∧ Kp [b] wr w5 := by
  obtain ⟨g, R, hg⟩ := h.rdr
  refine (num_any b g s wr R hl).mono ?_
  rw [hs]
  rintro e w5 ⟨rfl, g5, R5, G5, K5⟩
  exact ⟨rfl, h.took hg R5 G5 K5, K5⟩
/-- Bad -/
theorem take_bad {w wr : World} {b N0 : Nat} {v : Value} {k : Nat} {l : List (ByteArray × Int)} {s : Option (List Int)} (h : MR w wr b N0 v k l s) :
    Calls Tryz.prog 89 #[.pointer (some ⟨b, 0, none⟩)] wr fun e w5 => e = .returned (.tuple #[]) ∧ MR w w5 b N0 v k l none ∧ Kp [b] wr w5 := by
  obtain ⟨g, R, hg⟩ := h.rdr
  refine (bad_any b g s wr R).mono ?_
  rintro e w5 ⟨rfl, g5, R5, G5, K5⟩
  exact ⟨rfl, h.took hg R5 G5 K5, K5⟩
theorem take_whole {w wr : World} {b N0 : Nat} {v : Value} {k : Nat} {l : List (ByteArray × Int)} {s : Option (List Int)} (h : MR w wr b N0 v k l s) :
    Calls Tryz.prog 90 #[.pointer (some ⟨b, 0, none⟩)] wr fun e w5 => e = .returned (.bool (whole s)) ∧ w5 = wr := by
  obtain ⟨g, R, hg⟩ := h.rdr
  exact whole_any b g s wr R
/-- a place is laid -/
theorem MR.made {w w7 : World} {b N0 X : Nat} {v : Value} {k : Nat} {l : List (ByteArray × Int)} {s : Option (List Int)} {key0 : ByteArray} {x0 : Int} (h : MR w w7 b N0 v k l s) (hz : PlAt w7 X key0 x0) (hX : N0 ≤ X) (hv : ∀ y, v.ownBlock = some y → y < X) (key : ByteArray) (x : Int) :
    MR w ((w7.setCell ⟨X, 0, none⟩ (.string key)).setCell ⟨X, 1, none⟩ (.int .i64 x)) b N0 v k l s ∧ PlAt ((w7.setCell ⟨X, 0, none⟩ (.string key)).setCell ⟨X, 1, none⟩ (.int .i64 x)) X key x ∧ b < X := by
  obtain ⟨o1, o2, o3⟩ := h.ord
  obtain ⟨g, hr, hg⟩ := h.rdr
  have e1 : PlAt (w7.setCell ⟨X, 0, none⟩ (.string key)) X key x0 := heap_setCell_same w7 X 0 _ _ (.string key) hz
  have e2 : PlAt ((w7.setCell ⟨X, 0, none⟩ (.string key)).setCell ⟨X, 1, none⟩ (.int .i64 x)) X key x := heap_setCell_same _ X 1 _ _ (.int .i64 x) e1
  have kk : Kp [X] w7 ((w7.setCell ⟨X, 0, none⟩ (.string key)).setCell ⟨X, 1, none⟩ (.int .i64 x)) := ((Kp.refl _ w7).setCell (.inl (by simp)) _).setCell (.inl (by simp)) _
  have hs := kk.size
  refine ⟨⟨h.kp.trans kk (by intro y hy; simp at hy; omega), kk.own h.own (fun y hy => by have := hv y hy; simp; omega), h.lo, ⟨g, hr.kp kk (by simp; omega) (fun y hy => by have := hg y hy; simp; omega), hg⟩, ⟨o1, o2, by omega⟩⟩, e2, by omega⟩
theorem MR.laid {w w7 : World} {b N0 : Nat} {v : Value} {k : Nat} {l : List (ByteArray × Int)} {s : Option (List Int)} (h : MR w w7 b N0 v k l s) (key : ByteArray) (x : Int) :
    MR w (w7.alloc (.cells #[.string key, .int .i64 x] 73)) b N0 v k l s ∧ PlAt (w7.alloc (.cells #[.string key, .int .i64 x] 73)) w7.heap.size key x ∧ b < w7.heap.size :=
  ⟨h.skip ((Kp.refl [] _).alloc _), PlAt.new _ _ _, by have := h.ord; omega⟩
/-- behind ReadMatches -/
def DMs (xs : List Int) (w : World) (e : Ending) (w' : World) : Prop :=
  ∃ (l : List (ByteArray × Int)) (z : Int) (A : Option Addr) (n c : Nat), dMs xs = (l, z) ∧ e = .returned (.tuple #[.slice A n c, .int .i64 z]) ∧ l.length = n ∧ Rd w' A (mv l) ∧ n ≤ c ∧ (A = none → c = 0) ∧ Kp [] w w'
theorem dms_none {xs : List Int} {w w' : World} (h : dMs xs = ([], 3)) (k : Kp [] w w') : DMs xs w (.returned (.tuple #[.slice none 0 0, .int .i64 3])) w' :=
  ⟨[], 3, none, 0, 0, h, rfl, rfl, Rd.nil _ _, Nat.le_refl _, fun _ => rfl, k⟩
end Go.Proofs.YtdiljpdohmeceaaGreat.reader

/- op.ReadMatches. -/
namespace Go.Proofs.YtdiljpdohmeceaaGreat.opk
open Go.RowKit H O haystacklaw13 reader

set_option maxHeartbeats 8000000 in
set_option maxRecDepth 100000 in
theorem readMs_any (A : Option Addr) (n c : Nat) (xs : List Int) (w : World) (hn : xs.length = n) (hr : Rd w A (iv .u8 xs)) (hnil : A = none → c = 0) (hw : Wf xs) (hm : n ≤ 50000) :
    Calls Tryz.prog 91 #[.slice A n c] w (DMs xs w) := by
  have HNEW := As.mk (reader.new_any A n c xs w hn hr hnil (by omega) hw)
  obtain ⟨N, s1, h0⟩ : ∃ a b, stNum (some xs) = (a, b) := ⟨_, _, rfl⟩
  have HE := As.mk (dMs_eq h0)
  have hl1 : (left s1).length ≤ 50000 := by
    have q1 := reader.left_le (s := some xs) (m := 50000) (by simp [left]; omega)
    rwa [h0] at q1
  have HC : As (∀ j r, (mIter j s1).2 = some r → j + r.length ≤ 50000) := ⟨fun j r h => by have := mIter_count h; omega⟩
  have H0 := As.mk h0
  have HL0 : As ((left (some xs)).length ≤ 140737488351232) := ⟨by simp [left]; omega⟩
  clear h0 hl1 hn hr hnil hw
  go_enter Tryz.func91, Tryz.ntmps91
  go_wp2_with (first
    | (go_at_call 86; refine HNEW.out.mono ?_; rintro e w2 ⟨b, g, rfl, R2, hb2, hg2, K2⟩; have HS2 := As.mk (MR.start K2 R2 (fun y hy => (hg2 y hy).2) hb2); have HNM := As.mk (take_num HS2.out HL0.out H0.out); clear R2 hb2 hg2 K2 HNEW)
    | (go_at_call 87; refine HNM.out.mono ?_; rintro e w3 ⟨rfl, h3, k3⟩; have HS3 := As.mk h3; clear h3 k3 HNM))
  go_loopw [4] (fun v wr => ∃ (k cX : Nat) (AX : Option Addr), v = .slice AX k cX ∧ k ≤ N ∧ As (MR w wr b w2.heap.size (.slice AX k cX) k (mIter k s1).1 (mIter k s1).2)) (fun v _ => N - match v with | .slice _ m _ => m | _ => 0)
  case atStart => exact ⟨0, 0, none, rfl, by omega, HS3⟩
  case round =>
    obtain ⟨k, cX, AX, rfl, hk, HD⟩ := hrel
    by_cases hlt : k < N
    · cases hst : (mIter k s1).2 with
      | none =>
        have HD' := HD.out
        rw [hst] at HD'
        have HG : As (Calls Tryz.prog 117 #[.pointer (some ⟨b, 0, none⟩)] wr fun e w' => e = .returned (.bool false) ∧ w' = wr) := ⟨by obtain ⟨g, R, _⟩ := HD'.rdr; exact reader.good_any b g none wr R⟩
        have HWH := As.mk (take_whole HD')
        have HZ : As (dMs xs = ([], 3)) := ⟨by rw [HE.out, mIter_stay hst (by omega), if_neg (by simp)]⟩
        have HKP := As.mk HD'.kp
        clear HD' hst
        go_wp2_with (first
          | (go_at_call 117; refine HG.out.mono ?_; rintro e w5 ⟨rfl, rfl⟩; clear HG)
          | (go_at_call 90; refine HWH.out.mono ?_; rintro e w6 ⟨rfl, rfl⟩; clear HWH))
        go_ret2
        exact dms_none HZ.out HKP.out
      | some rest =>
        have hk9 : k ≤ 50000 := by have := HC.out k rest hst; omega
        have HD' := HD.out
        rw [hst] at HD'
        have HG : As (Calls Tryz.prog 117 #[.pointer (some ⟨b, 0, none⟩)] wr fun e w' => e = .returned (.bool true) ∧ w' = wr) := ⟨by obtain ⟨g, R, _⟩ := HD'.rdr; exact reader.good_any b g (some rest) wr R⟩
        obtain ⟨p, s4, hp⟩ : ∃ p q, stBytes (some rest) = (p, q) := ⟨_, _, rfl⟩
        obtain ⟨y, s5, hy⟩ : ∃ p q, stNum s4 = (p, q) := ⟨_, _, rfl⟩
        have hrest : (left (some rest)).length ≤ 140737488351232 := by have := HC.out k rest hst; simp [left]; omega
        have hl4 : (left s4).length ≤ 140737488351232 := by have h := stBytes_left (s := some rest) hrest; rwa [hp] at h
        have HBYX : As (∀ wX, Kp [] wr wX → Calls Tryz.prog 88 #[.pointer (some ⟨b, 0, none⟩)] wX fun e w5 => ∃ A5 n5 c5, e = .returned (.slice A5 n5 c5) ∧ p.length = n5 ∧ MR w w5 b w2.heap.size (.slice AX k cX) k (mIter k s1).1 s4 ∧ (∀ w6, Kp [b] w5 w6 → Rd w6 A5 (iv .u8 p)) ∧ Kp [b] wX w5) := ⟨fun wX kX => take_bytes (HD'.skip kX) hrest hp⟩
        have HNUX : As (∀ wY, MR w wY b w2.heap.size (.slice AX k cX) k (mIter k s1).1 s4 → Calls Tryz.prog 87 #[.pointer (some ⟨b, 0, none⟩)] wY fun e w5 => e = .returned (.int .i64 (y : Int)) ∧ MR w w5 b w2.heap.size (.slice AX k cX) k (mIter k s1).1 s5 ∧ Kp [b] wY w5) := ⟨fun wY hY => take_num hY hl4 hy⟩
        have HOB : As (∀ z, (Value.slice AX k cX).ownBlock = some z → z < wr.heap.size) := ⟨fun z hz => own_lt HD'.own z hz⟩
        have HNZ : As (w2.heap.size ≤ wr.heap.size) := ⟨HD'.ord.2.2⟩
        have HNX : As ((mIter (k + 1) s1).1 = (mIter k s1).1 ++ [(strOfNums p, (y : Int))] ∧ (mIter (k + 1) s1).2 = if 1 ≤ p.length ∧ p.length ≤ 64 then s5 else none) := ⟨by simp only [mIter, hst, mStep, hp, hy, and_self]⟩
        have hX0 : b < wr.heap.size := by have := HD'.ord; omega
        have HXB := As.mk hX0
        clear HD' hst hrest hl4 hp hy hX0
        go_upto_region 5 with (go_at_call 117; refine HG.out.mono ?_; rintro e w5 ⟨rfl, rfl⟩; clear HG)
        go_cut [7] from 12 to 35 (fun v wx => ∃ X, v = .pointer (some ⟨X, 0, none⟩) ∧ As (MR w wx b w2.heap.size (.slice AX k cX) k (mIter k s1).1 s5 ∧ PlAt wx X (strOfNums p) y ∧ b < X))
        case first =>
          go_region_law (first
            | (go_simp; go_at_call 88; (first | (refine (HBYX.out _ (Kp.refl [] _).drew).mono ?_; rintro e w6 HP; obtain ⟨A6, n6, c6, rfl, hn6, h6, r6, k6⟩ := HP) | (refine (HBYX.out _ ((Kp.refl [] _).drew.alloc _)).mono ?_; rintro e w6 HP; obtain ⟨A6, n6, c6, rfl, hn6, h6, r6, k6⟩ := HP; have HZ6 : As (PlAt w6 w5.heap.size ⟨#[]⟩ 0) := ⟨(PlAt.new w5.drew ⟨#[]⟩ 0).kp k6 (by have := HXB.out; simp; omega)⟩; obtain ⟨z60, z61⟩ := HZ6.out.cells; have f60 := HZ6.out.free 0; have f61 := HZ6.out.free 1)); have HS6 : As (w5.heap.size ≤ w6.heap.size) := ⟨by have := k6.size; simp at this; omega⟩; have HD6 := As.mk h6; have HN6 := As.mk hn6; have HR6 := As.mk r6; have hcv := conv_str (c := c6) hn6 (r6 w6 (Kp.refl _ _)); have hcva := fun o => conv_str (c := c6) hn6 (r6 (w6.alloc o) ((Kp.refl _ _).alloc _)); clear hn6 h6 r6 k6)
            | (go_simp; go_at_call 87; refine (HNUX.out _ (by first | exact HD6.out | exact HD6.out.skip ((Kp.refl [] _).alloc _))).mono ?_; rintro e w7 HP; obtain ⟨rfl, h7, k7⟩ := HP; have HD7 := As.mk h7; have k67 : Kp [b] w6 w7 := (by first | exact k7 | exact ((Kp.refl [b] _).alloc _).trans k7 (fun x hx => .inl hx)); have hcv7 := conv_str (c := c6) HN6.out (HR6.out w7 k67); have hcva7 := fun o => conv_str (c := c6) HN6.out (HR6.out (w7.alloc o) (k67.alloc o)); (first | (have HZ7 := As.mk (HZ6.out.kp k7 (by have := HXB.out; simp; omega)); obtain ⟨z70, z71⟩ := HZ7.out.cells; have f70 := HZ7.out.free 0; have f71 := HZ7.out.free 1) | (have HZ7 : As (PlAt w7 w6.heap.size ⟨#[]⟩ 0) := ⟨(PlAt.new w6 ⟨#[]⟩ 0).kp k7 (by have := HD6.out.ord; simp; omega)⟩; obtain ⟨z70, z71⟩ := HZ7.out.cells; have f70 := HZ7.out.free 0; have f71 := HZ7.out.free 1) | skip); clear h7 k7 k67))
          all_goals go_wp2_with fail
          all_goals go_meet
          all_goals first
            | exact ⟨_, rfl, ⟨HD7.out.made HZ7.out (by have := HS6.out; have := HNZ.out; omega) (fun z hz => by have := HOB.out z hz; have := HS6.out; omega) _ _⟩⟩
            | exact ⟨_, rfl, ⟨HD7.out.laid _ _⟩⟩
        case rest =>
          obtain ⟨X, rfl, HQ⟩ := hcut
          obtain ⟨e0, e1⟩ := HQ.out.2.1.cells
          have hXlt : X < wc.heap.size := lt_of_block HQ.out.2.1
          by_cases hkey : 1 ≤ p.length ∧ p.length ≤ 64
          · have HI := As.mk (isKey_any (strOfNums p) wc)
            rw [str_size, decide_eq_true hkey] at HI
            have HNX2 := HNX.out.2
            rw [if_pos hkey] at HNX2
            have HNY := As.mk (And.intro HNX.out.1 HNX2)
            clear HNX2 HNX hkey
            go_wp2_with (first
              | (go_at_call 104; refine HI.out.mono ?_; rintro e w8 ⟨rfl, rfl⟩; clear HI)
              | (at_builtin; refine reader.appM rfl (.tmp 32) (.tmp 34) rfl (.slice AX k cX) k (mv (mIter k s1).1) rfl (((Kp.refl [] _).alloc _).own HQ.out.1.own (by simp)) w8.heap.size (strOfNums p) y rfl (PlAt.new w8 _ _) (by omega) ?_; intro v9 w9 o9 k9 a9; have h9 := (HQ.out.1.skip ((Kp.refl [] _).alloc _)).put (m := (strOfNums p, (y : Int))) o9 k9 a9; obtain ⟨A9, c9, rfl, _⟩ := own_rd o9; have HD9 := As.mk h9; clear o9 k9 a9 h9))
            go_roundw
            case rel => exact ⟨k + 1, c9, A9, rfl, by omega, ⟨by rw [HNY.out.1, HNY.out.2]; exact HD9.out⟩⟩
            case measure => simp; omega
          · have HI := As.mk (isKey_any (strOfNums p) wc)
            rw [str_size, decide_eq_false hkey] at HI
            have HNX2 := HNX.out.2
            rw [if_neg hkey] at HNX2
            have HNY := As.mk (And.intro HNX.out.1 HNX2)
            have HBD := As.mk (take_bad HQ.out.1)
            clear HNX2 HNX hkey
            go_wp2_with (first
              | (go_at_call 104; refine HI.out.mono ?_; rintro e w8 ⟨rfl, rfl⟩; clear HI)
              | (go_at_call 89; refine HBD.out.mono ?_; rintro e w8' ⟨rfl, h8, k8⟩; have HB8 := As.mk h8; obtain ⟨e80, e81⟩ := (HQ.out.2.1.kp k8 (by have := HQ.out.2.2; simp; omega)).cells; have hX8 : X < w8'.heap.size := (by have := k8.size; omega); clear h8 k8 HBD)
              | (at_builtin; refine reader.appM rfl (.tmp 32) (.tmp 34) rfl (.slice AX k cX) k (mv (mIter k s1).1) rfl (((Kp.refl [] _).alloc _).own HB8.out.own (by simp)) w8'.heap.size (strOfNums p) y rfl (PlAt.new w8' _ _) (by omega) ?_; intro v9 w9 o9 k9 a9; have h9 := (HB8.out.skip ((Kp.refl [] _).alloc _)).put (m := (strOfNums p, (y : Int))) o9 k9 a9; obtain ⟨A9, c9, rfl, _⟩ := own_rd o9; have HD9 := As.mk h9; clear o9 k9 a9 h9))
            go_roundw
            case rel => exact ⟨k + 1, c9, A9, rfl, by omega, ⟨by rw [HNY.out.1, HNY.out.2]; exact HD9.out⟩⟩
            case measure => simp; omega
    · obtain rfl : k = N := by omega
      have HWH := As.mk (take_whole HD.out)
      cases hwh : whole (mIter k s1).2 with
      | false =>
        have HZ : As (dMs xs = ([], 3)) := ⟨by rw [HE.out, if_neg]; intro h9; rw [h9] at hwh; simp [whole] at hwh⟩
        rw [hwh] at HWH
        clear hwh
        go_wp2_with (go_at_call 90; refine HWH.out.mono ?_; rintro e w6 ⟨rfl, rfl⟩; clear HWH)
        go_ret2
        exact dms_none HZ.out HD.out.kp
      | true =>
        have HZ : As (dMs xs = ((mIter k s1).1, 0)) := ⟨by rw [HE.out, if_pos]; simpa [whole] using hwh⟩
        rw [hwh] at HWH
        clear hwh
        go_wp2_with (go_at_call 90; refine HWH.out.mono ?_; rintro e w6 ⟨rfl, rfl⟩; clear HWH)
        go_ret2
        obtain ⟨A9, c9, h9, hc9, _, r9, n9⟩ := own_rd HD.out.own
        cases h9
        exact ⟨_, _, AX, k, cX, HZ.out, rfl, mIter_len k s1, r9, hc9, n9, HD.out.kp⟩
end Go.Proofs.YtdiljpdohmeceaaGreat.opk

/- Places that are read: how a round stands (Reader of refr); append of a place. -/
namespace Go.Proofs.YtdiljpdohmeceaaGreat.refr
open Go.RowKit H O opk haystacklaw13

theorem info_match : (Tryz.prog.info? 73).map (fun i => (i.zero, i.size, i.bytes)) = some (some (.agg #[.string ⟨#[]⟩, .int .i64 0]), 2, 24) := by kernel_rfl
/-- append of one place -/
theorem appM {w : World} {ops : Array Oper} {rest : List Oper} {o : Oper} {a : Act} {Q : Exit → Act → World → Prop} (hgd : o.guard = none) (s x : Operand)
    (ho : o.op = .call { callee := .builtin .append, args := #[s, x], argTypes := #[59, 59] })
    (v : Value) (n : Nat) (xs : List Value) (hs : a.eval s = v) (hown : w.ownsRow 0 73 2 v n xs) (g : Nat) (key : ByteArray) (y : Int)
    (hx : a.eval x = .slice (some ⟨g, 0, none⟩) 1 1) (hc : PlAt w g key y) (hm : n + 1 ≤ 100000)
    (h : ∀ v' w', w'.ownsRow 0 73 2 v' (n + 1) (xs ++ [.string key, .int .i64 y]) → Kp v.ownBlock.toList w w' → At w.heap.size v.ownBlock v'.ownBlock →
      wpList Tryz.prog ops Q rest (a.put o.dst v') w') : wpList Tryz.prog ops Q (o :: rest) a w :=
  wpList_app hgd s x 59 ho 73 (.agg #[.string ⟨#[]⟩, .int .i64 0]) 2 24 Tryz.underlying59 info_match (by kernel_rfl) (by decide) v n xs hs hown (some ⟨g, 0, none⟩) 1 1 [.string key, .int .i64 y] hx rfl
    (by
      intro j u hj
      match j, hj with
      | 0, hj => simp at hj; subst hj; exact ⟨_, rfl, by rw [add_zero']; exact hc.cells.1⟩
      | 1, hj => simp at hj; subst hj; exact ⟨_, rfl, by rw [Addr.add_lit]; exact hc.cells.2⟩)
    (by simp) (by intro u hu; simp only [List.mem_cons, List.not_mem_nil, or_false] at hu; rcases hu with rfl | rfl <;> rfl) (by omega) (by omega)
    (fun v' w' h1 h2 h3 _ => h v' w' h1 h2 h3)

/-- Where ReadMatches stands. -/
structure MR (w wr : World) (b N0 : Nat) (v : Value) (k : Nat) (l : List (ByteArray × Int)) (s : Option (List Int)) : Prop where
  kp : Kp [] w wr
  own : wr.ownsRow 0 73 2 v k (mv l)
  lo : ∀ y, v.ownBlock = some y → N0 ≤ y
  rdr : ∃ g, Rdr wr b g s ∧ ∀ y, g = some y → y < N0
  ord : w.heap.size ≤ b ∧ b < N0 ∧ N0 ≤ wr.heap.size
theorem MR.skip {w wr w1 : World} {b N0 : Nat} {v : Value} {k : Nat} {l : List (ByteArray × Int)} {s : Option (List Int)} (h : MR w wr b N0 v k l s) (kk : Kp [] wr w1) : MR w w1 b N0 v k l s := by
  obtain ⟨g, hr, hg⟩ := h.rdr
  have := kk.size
  exact ⟨h.kp.trans kk (by simp), kk.own h.own (by simp), h.lo, ⟨g, hr.kp kk (by simp) (by simp), hg⟩, ⟨h.ord.1, h.ord.2.1, Nat.le_trans h.ord.2.2 this⟩⟩
/-- something is taken -/
theorem MR.took {w wr w1 : World} {b N0 : Nat} {v : Value} {k : Nat} {l : List (ByteArray × Int)} {s s' : Option (List Int)} {g g' : Option Nat} (h : MR w wr b N0 v k l s) (hg : ∀ y, g = some y → y < N0) (R : Rdr w1 b g' s') (G : g' = g ∨ g' = none) (kk : Kp [b] wr w1) : MR w w1 b N0 v k l s' := by
  obtain ⟨o1, o2, o3⟩ := h.ord
  have := kk.size
  exact ⟨h.kp.trans kk (by intro x hx; simp at hx; omega), kk.own h.own (fun y hy => by have := h.lo y hy; simp; omega), h.lo, ⟨g', R, fun y hy => by rcases G with e | e; exact hg y (by rw [← e]; exact hy); rw [e] at hy; cases hy⟩, ⟨o1, o2, by omega⟩⟩
/-- a place more -/
theorem MR.put {w wr w2 : World} {b N0 : Nat} {v v' : Value} {k : Nat} {l : List (ByteArray × Int)} {s : Option (List Int)} {m : ByteArray × Int} (h : MR w wr b N0 v k l s) (o : w2.ownsRow 0 73 2 v' (k + 1) (mv l ++ [.string m.1, .int .i64 m.2])) (kk : Kp v.ownBlock.toList wr w2) (a : At wr.heap.size v.ownBlock v'.ownBlock) : MR w w2 b N0 v' (k + 1) (l ++ [m]) s := by
  obtain ⟨o1, o2, o3⟩ := h.ord
  obtain ⟨g, hr, hg⟩ := h.rdr
  have hs := kk.size
  have hS : ∀ i, i < N0 → i ∉ v.ownBlock.toList := fun i hi hm => by have := h.lo i (by simpa using hm); omega
  refine ⟨h.kp.row kk (fun z hz => .inr (by have := h.lo z hz; omega)), by rw [mv_app]; exact o, a.ge o3 h.lo, ⟨g, hr.kp kk (hS _ o2) (fun z hz => hS z (hg z hz)), hg⟩, ⟨o1, o2, by omega⟩⟩
theorem MR.start {w w2 : World} {b : Nat} {g : Option Nat} {s : Option (List Int)} (kp : Kp [] w w2) (R : Rdr w2 b g s) (hg : ∀ y, g = some y → y < w2.heap.size) (hb : w.heap.size ≤ b) : MR w w2 b w2.heap.size (.slice none 0 0) 0 [] s :=
  ⟨kp, World.ownsRow_nil _ 0 _ 2, by simp [Value.ownBlock], ⟨g, R, hg⟩, ⟨hb, R.lt, Nat.le_refl _⟩⟩
/-- a Reader of a slice as it lies -/
theorem MR.box {w : World} {A : Option Addr} {n c : Nat} {xs : List Int} (hn : xs.length = n) (hr : Rd w A (iv .u8 xs)) (hc : n ≤ c) (hc9 : c ≤ 9223372036854775807) (hnil : A = none → c = 0) (hA : ∀ a, A = some a → a.block < w.heap.size) (hw : Wf xs) :
    MR w (w.alloc (.cells #[.slice A n c, .bool false] 106)) w.heap.size (w.heap.size + 1) (.slice none 0 0) 0 [] (some xs) := by
  subst hn
  have hg : ∀ y, A.map Addr.block = some y → y < w.heap.size := by
    intro y hy
    cases A with
    | none => simp at hy
    | some a => simp at hy; rw [← hy]; exact hA a rfl
  refine ⟨(Kp.refl [] w).alloc _, World.ownsRow_nil _ 0 _ 2, by simp [Value.ownBlock], ⟨A.map Addr.block, ⟨A, c, heap_alloc_new w _, rfl, ((Kp.refl [] w).alloc _).rd_new hr (by simp), hc, hc9, hnil, ?_, hw⟩, fun y hy => by have := hg y hy; omega⟩, ⟨Nat.le_refl _, by omega, by simp⟩⟩
  intro e
  have := hg _ e
  omega
theorem MR.err {w wr : World} {b N0 : Nat} {v : Value} {k : Nat} {l : List (ByteArray × Int)} {s : Option (List Int)} (h : MR w wr b N0 v k l s) : wr.cell? ⟨b, 1, none⟩ = some (.bool s.isNone) := by
  obtain ⟨g, ⟨A, c, h1, _⟩, _⟩ := h.rdr
  exact blk_cell h1 1 rfl
/-- Bytes -/
theorem take_bytes {w wr : World} {b N0 : Nat} {v : Value} {k : Nat} {l : List (ByteArray × Int)} {s s4 : Option (List Int)} {p : List Int} (h : MR w wr b N0 v k l s) (hl : (left s).length ≤ 140737488351232) (hs : stBytes s = (p, s4)) :
    Calls Tryz.prog 36 #[.pointer (some ⟨b, 0, none⟩)] wr fun e w5 => ∃ A5 n5 c5, e = .returned (.slice A5 n5 c5) ∧ p.length = n5 ∧ MR w w5 b N0 v k l s4 ∧ (∀ w6, Kp [b] w5 w6 → Rd w6 A5 (iv .u8 p)) ∧ Kp [b] wr w5 := by
  obtain ⟨g, R, hg⟩ := h.rdr
  refine (bytes_any b g s wr R hl).mono ?_
  rw [hs]
  rintro e w5 ⟨v5, rfl, O, g5, R5, G5, K5⟩
  have O' := O
  obtain ⟨A5, c5, rfl, _, _, r5, _⟩ := own_rd O.1
  refine ⟨A5, _, c5, rfl, rfl, h.took hg R5 G5 K5, fun w6 k6 => k6.rd r5 ?_, K5⟩
  intro a ha hm
  have h1 := O'.2 a.block (by rw [ha]; rfl)
  have h2 := h.ord
  simp at hm
  omega
/-- Num -/
theorem take_num {w wr : World} {b N0 : Nat} {v : Value} {k : Nat} {l : List (ByteArray × Int)} {s s4 : Option (List Int)} {y : Nat} (h : MR w wr b N0 v k l s) (hl : (left s).length ≤ 140737488351232) (hs : stNum s = (y, s4)) :
    Calls Tryz.prog 35 #[.pointer (some ⟨b, 0, none⟩)] wr fun e w5 => e = .returned (.int .i64 (y : Int)) ∧ MR w w5 b N0 v k l s4 ∧ Kp [b] wr w5 := by
  obtain ⟨g, R, hg⟩ := h.rdr
  refine (num_any b g s wr R hl).mono ?_
  rw [hs]
  rintro e w5 ⟨rfl, g5, R5, G5, K5⟩
  exact ⟨rfl, h.took hg R5 G5 K5, K5⟩
/-- Bad -/
theorem take_bad {w wr : World} {b N0 : Nat} {v : Value} {k : Nat} {l : List (ByteArray × Int)} {s : Option (List Int)} (h : MR w wr b N0 v k l s) :
    Calls Tryz.prog 78 #[.pointer (some ⟨b, 0, none⟩)] wr fun e w5 => e = .returned (.tuple #[]) ∧ MR w w5 b N0 v k l none ∧ Kp [b] wr w5 := by
  obtain ⟨g, R, hg⟩ := h.rdr
  refine (bad_any b g s wr R).mono ?_
  rintro e w5 ⟨rfl, g5, R5, G5, K5⟩
  exact ⟨rfl, h.took hg R5 G5 K5, K5⟩
theorem take_whole {w wr : World} {b N0 : Nat} {v : Value} {k : Nat} {l : List (ByteArray × Int)} {s : Option (List Int)} (h : MR w wr b N0 v k l s) :
    Calls Tryz.prog 37 #[.pointer (some ⟨b, 0, none⟩)] wr fun e w5 => e = .returned (.bool (whole s)) ∧ w5 = wr := by
  obtain ⟨g, R, hg⟩ := h.rdr
  exact whole_any b g s wr R
/-- a place is laid -/
theorem MR.made {w w7 : World} {b N0 X : Nat} {v : Value} {k : Nat} {l : List (ByteArray × Int)} {s : Option (List Int)} {key0 : ByteArray} {x0 : Int} (h : MR w w7 b N0 v k l s) (hz : PlAt w7 X key0 x0) (hX : N0 ≤ X) (hv : ∀ y, v.ownBlock = some y → y < X) (key : ByteArray) (x : Int) :
    MR w ((w7.setCell ⟨X, 0, none⟩ (.string key)).setCell ⟨X, 1, none⟩ (.int .i64 x)) b N0 v k l s ∧ PlAt ((w7.setCell ⟨X, 0, none⟩ (.string key)).setCell ⟨X, 1, none⟩ (.int .i64 x)) X key x ∧ b < X := by
  obtain ⟨o1, o2, o3⟩ := h.ord
  obtain ⟨g, hr, hg⟩ := h.rdr
  have e1 : PlAt (w7.setCell ⟨X, 0, none⟩ (.string key)) X key x0 := heap_setCell_same w7 X 0 _ _ (.string key) hz
  have e2 : PlAt ((w7.setCell ⟨X, 0, none⟩ (.string key)).setCell ⟨X, 1, none⟩ (.int .i64 x)) X key x := heap_setCell_same _ X 1 _ _ (.int .i64 x) e1
  have kk : Kp [X] w7 ((w7.setCell ⟨X, 0, none⟩ (.string key)).setCell ⟨X, 1, none⟩ (.int .i64 x)) := ((Kp.refl _ w7).setCell (.inl (by simp)) _).setCell (.inl (by simp)) _
  have hs := kk.size
  refine ⟨⟨h.kp.trans kk (by intro y hy; simp at hy; omega), kk.own h.own (fun y hy => by have := hv y hy; simp; omega), h.lo, ⟨g, hr.kp kk (by simp; omega) (fun y hy => by have := hg y hy; simp; omega), hg⟩, ⟨o1, o2, by omega⟩⟩, e2, by omega⟩
theorem MR.laid {w w7 : World} {b N0 : Nat} {v : Value} {k : Nat} {l : List (ByteArray × Int)} {s : Option (List Int)} (h : MR w w7 b N0 v k l s) (key : ByteArray) (x : Int) :
    MR w (w7.alloc (.cells #[.string key, .int .i64 x] 73)) b N0 v k l s ∧ PlAt (w7.alloc (.cells #[.string key, .int .i64 x] 73)) w7.heap.size key x ∧ b < w7.heap.size :=
  ⟨h.skip ((Kp.refl [] _).alloc _), PlAt.new _ _ _, by have := h.ord; omega⟩
/-- behind ReadMatches -/
def DMs (xs : List Int) (w : World) (e : Ending) (w' : World) : Prop :=
  ∃ (l : List (ByteArray × Int)) (z : Int) (A : Option Addr) (n c : Nat), dMs xs = (l, z) ∧ e = .returned (.tuple #[.slice A n c, .int .i64 z]) ∧ l.length = n ∧ Rd w' A (mv l) ∧ n ≤ c ∧ (A = none → c = 0) ∧ Kp [] w w'
theorem dms_none {xs : List Int} {w w' : World} (h : dMs xs = ([], 3)) (k : Kp [] w w') : DMs xs w (.returned (.tuple #[.slice none 0 0, .int .i64 3])) w' :=
  ⟨[], 3, none, 0, 0, h, rfl, rfl, Rd.nil _ _, Nat.le_refl _, fun _ => rfl, k⟩
end Go.Proofs.YtdiljpdohmeceaaGreat.refr

/- The document's Reader over nothing: its first number is missing, wherever the empty slice points. -/
namespace Go.Proofs.YtdiljpdohmeceaaGreat.refr
open Go.RowKit H O

/-- A Reader over an empty slice. -/
def Emp (w : World) (b : Nat) (A : Option Addr) (c : Nat) : Prop := w.heap[b]? = some (.cells #[.slice A 0 c, .bool false] 106 (0, 0))
theorem Emp.kp {S : List Nat} {w w1 : World} {b : Nat} {A : Option Addr} {c : Nat} (h : Emp w b A c) (k : Kp S w w1) (hb : b ∉ S) : Emp w1 b A c := k.blk h hb
def EmpPost (b : Nat) (v : Value) (w : World) (e : Ending) (w' : World) : Prop := e = .returned v ∧ Rdr w' b none none ∧ Kp [b] w w'
theorem bad_empty {w : World} {b : Nat} {A : Option Addr} {c : Nat} (h : Emp w b A c) : Calls Tryz.prog 78 #[.pointer (some ⟨b, 0, none⟩)] w (EmpPost b (.tuple #[]) w) := by
  have c0 := blk_cell h 0 rfl
  have c1 := blk_cell h 1 rfl
  have f0 := blk_free h 0
  have f1 := blk_free h 1
  have HB : As (EmpPost b (.tuple #[]) w (.returned (.tuple #[])) ((w.setCell ⟨b, 1, none⟩ (.bool true)).setCell ⟨b, 0, none⟩ (.slice none 0 0))) := ⟨by
    have e1 : (w.setCell ⟨b, 1, none⟩ (.bool true)).heap[b]? = some (.cells #[.slice A 0 c, .bool true] 106 (0, 0)) := heap_setCell_same w b 1 _ _ (.bool true) h
    have e2 : ((w.setCell ⟨b, 1, none⟩ (.bool true)).setCell ⟨b, 0, none⟩ (.slice none 0 0)).heap[b]? = some (.cells #[.slice none 0 0, .bool true] 106 (0, 0)) := heap_setCell_same _ b 0 _ _ (.slice none 0 0) e1
    exact ⟨rfl, ⟨none, 0, e2, rfl, Rd.nil _ _, by simp [left], by omega, fun _ => rfl, by simp, Wf.nil⟩, ((Kp.refl _ w).setCell (.inl (by simp)) _).setCell (.inl (by simp)) _⟩⟩
  clear h
  go_enter Tryz.func78, Tryz.ntmps78
  go_wp2
  go_end0
  exact HB.out
set_option maxHeartbeats 1000000 in
theorem raw_empty {w : World} {b : Nat} {A : Option Addr} {c : Nat} (h : Emp w b A c) : Calls Tryz.prog 34 #[.pointer (some ⟨b, 0, none⟩), .int .i64 1] w (EmpPost b (.slice none 0 0) w) := by
  have c0 := blk_cell h 0 rfl
  have c1 := blk_cell h 1 rfl
  have HBAD := As.mk (bad_empty h)
  clear h
  go_enter Tryz.func34, Tryz.ntmps34
  go_wp2_with (go_at_call 78; refine HBAD.out.mono ?_; rintro e w1 ⟨rfl, R1, K1⟩; obtain ⟨A2, c2, hb2, _⟩ := id R1; have c21 := blk_cell hb2 1 rfl; have HP := As.mk (And.intro R1 K1); clear R1 K1 hb2 HBAD)
  go_ret
  exact ⟨rfl, HP.out⟩
set_option maxHeartbeats 1000000 in
theorem num_empty {w : World} {b : Nat} {A : Option Addr} {c : Nat} (h : Emp w b A c) : Calls Tryz.prog 35 #[.pointer (some ⟨b, 0, none⟩)] w (EmpPost b (.int .i64 0) w) := by
  have HRW := As.mk (raw_empty h)
  clear h
  go_enter Tryz.func35, Tryz.ntmps35
  go_wp2
  go_loopw [3, 4] (fun u i wr => i = .int .i64 0 ∧ u = .int .u64 0 ∧ As (wr = w)) (fun _ i _ => 0)
  case atStart => exact ⟨rfl, rfl, ⟨rfl⟩⟩
  case round =>
    obtain ⟨rfl, rfl, ⟨rfl⟩⟩ := hrel
    go_wp2_with (go_at_call 34; refine HRW.out.mono ?_; rintro e w1 ⟨rfl, R1, K1⟩; obtain ⟨A2, c2, hb2, _⟩ := id R1; have c21 := blk_cell hb2 1 rfl; have HP := As.mk (And.intro R1 K1); clear R1 K1 hb2 HRW)
    go_ret
    exact ⟨rfl, HP.out⟩
end Go.Proofs.YtdiljpdohmeceaaGreat.refr

/- haystackref13.ReadMatches. -/
namespace Go.Proofs.YtdiljpdohmeceaaGreat.ref13
open Go.RowKit H O opk haystacklaw13 refr

/-- the first number -/
theorem MR.first {w : World} {A : Option Addr} {n c N : Nat} {xs : List Int} {s1 : Option (List Int)} (hn : xs.length = n) (hr : Rd w A (iv .u8 xs)) (hc : n ≤ c) (hc9 : c ≤ 9223372036854775807) (hnil : A = none → c = 0) (hA : (∀ a, A = some a → a.block < w.heap.size) ∨ n = 0) (hw : Wf xs) (hl : (left (some xs)).length ≤ 140737488351232) (h0 : stNum (some xs) = (N, s1)) :
    Calls Tryz.prog 35 #[.pointer (some ⟨w.heap.size, 0, none⟩)] (w.alloc (.cells #[.slice A n c, .bool false] 106)) fun e w5 => e = .returned (.int .i64 (N : Int)) ∧ MR w w5 w.heap.size (w.heap.size + 1) (.slice none 0 0) 0 [] s1 ∧ Kp [w.heap.size] (w.alloc (.cells #[.slice A n c, .bool false] 106)) w5 := by
  rcases hA with hA | rfl
  · exact take_num (MR.box hn hr hc hc9 hnil hA hw) hl h0
  · obtain rfl : xs = [] := List.eq_nil_of_length_eq_zero hn
    have e0 : stNum (some []) = (0, none) := rfl
    rw [e0] at h0
    cases h0
    refine (num_empty (A := A) (c := c) (b := w.heap.size) (heap_alloc_new w _)).mono ?_
    rintro e w5 ⟨rfl, R5, K5⟩
    exact ⟨rfl, ⟨((Kp.refl [] w).alloc _).trans K5 (by simp), World.ownsRow_nil _ 0 _ 2, by simp [Value.ownBlock], ⟨none, R5, by simp⟩, ⟨Nat.le_refl _, by omega, by have := K5.size; simpa using this⟩⟩, K5⟩

set_option maxHeartbeats 8000000 in
set_option maxRecDepth 100000 in
theorem readMs_any (A : Option Addr) (n c : Nat) (xs : List Int) (w : World) (hn : xs.length = n) (hr : Rd w A (iv .u8 xs)) (hc : n ≤ c) (hc9 : c ≤ 9223372036854775807) (hnil : A = none → c = 0) (hA : (∀ a, A = some a → a.block < w.heap.size) ∨ n = 0) (hw : Wf xs) (hm : n ≤ 50000) :
    Calls Tryz.prog 131 #[.slice A n c] w (DMs xs w) := by
  obtain ⟨N, s1, h0⟩ : ∃ a b, stNum (some xs) = (a, b) := ⟨_, _, rfl⟩
  have HE := As.mk (dMs_eq h0)
  have hl1 : (left s1).length ≤ 50000 := by
    have q1 := refr.left_le (s := some xs) (m := 50000) (by simp [left]; omega)
    rwa [h0] at q1
  have HC : As (∀ j r, (mIter j s1).2 = some r → j + r.length ≤ 50000) := ⟨fun j r h => by have := mIter_count h; omega⟩
  have H0 := As.mk h0
  have HL0 : As ((left (some xs)).length ≤ 140737488351232) := ⟨by simp [left]; omega⟩
  have HNM := As.mk (MR.first hn hr hc hc9 hnil hA hw HL0.out h0)
  clear h0 hl1 hn hr hc hc9 hnil hA hw
  go_enter Tryz.func131, Tryz.ntmps131
  go_wp2_with (go_at_call 35; refine HNM.out.mono ?_; rintro e w3 ⟨rfl, h3, k3⟩; have HS3 := As.mk h3; clear h3 k3 HNM)
  go_loopw [6, 7] (fun v i wr => ∃ (k cX : Nat) (AX : Option Addr), i = .int .i64 (k : Int) ∧ v = .slice AX k cX ∧ k ≤ N ∧ As (MR w wr w.heap.size (w.heap.size + 1) (.slice AX k cX) k (mIter k s1).1 (mIter k s1).2)) (fun _ i _ => N - (intOf i).toNat)
  case atStart => exact ⟨0, 0, none, rfl, rfl, by omega, HS3⟩
  case round =>
    obtain ⟨k, cX, AX, rfl, rfl, hk, HD⟩ := hrel
    by_cases hlt : k < N
    · cases hst : (mIter k s1).2 with
      | none =>
        have HD' := HD.out
        rw [hst] at HD'
        have dE := HD'.err
        have HWH := As.mk (take_whole HD')
        have HZ : As (dMs xs = ([], 3)) := ⟨by rw [HE.out, mIter_stay hst (by omega), if_neg (by simp)]⟩
        have HKP := As.mk HD'.kp
        clear HD' hst
        go_wp2_with (go_at_call 37; refine HWH.out.mono ?_; rintro e w6 ⟨rfl, rfl⟩; clear HWH)
        go_ret2
        exact dms_none HZ.out HKP.out
      | some rest =>
        have hk9 : k ≤ 50000 := by have := HC.out k rest hst; omega
        have HD' := HD.out
        rw [hst] at HD'
        have dE := HD'.err
        obtain ⟨p, s4, hp⟩ : ∃ p q, stBytes (some rest) = (p, q) := ⟨_, _, rfl⟩
        obtain ⟨y, s5, hy⟩ : ∃ p q, stNum s4 = (p, q) := ⟨_, _, rfl⟩
        have hrest : (left (some rest)).length ≤ 140737488351232 := by have := HC.out k rest hst; simp [left]; omega
        have hl4 : (left s4).length ≤ 140737488351232 := by have h := stBytes_left (s := some rest) hrest; rwa [hp] at h
        have HBYX : As (∀ wX, Kp [] wr wX → Calls Tryz.prog 36 #[.pointer (some ⟨w.heap.size, 0, none⟩)] wX fun e w5 => ∃ A5 n5 c5, e = .returned (.slice A5 n5 c5) ∧ p.length = n5 ∧ MR w w5 w.heap.size (w.heap.size + 1) (.slice AX k cX) k (mIter k s1).1 s4 ∧ (∀ w6, Kp [w.heap.size] w5 w6 → Rd w6 A5 (iv .u8 p)) ∧ Kp [w.heap.size] wX w5) := ⟨fun wX kX => take_bytes (HD'.skip kX) hrest hp⟩
        have HNUX : As (∀ wY, MR w wY w.heap.size (w.heap.size + 1) (.slice AX k cX) k (mIter k s1).1 s4 → Calls Tryz.prog 35 #[.pointer (some ⟨w.heap.size, 0, none⟩)] wY fun e w5 => e = .returned (.int .i64 (y : Int)) ∧ MR w w5 w.heap.size (w.heap.size + 1) (.slice AX k cX) k (mIter k s1).1 s5 ∧ Kp [w.heap.size] wY w5) := ⟨fun wY hY => take_num hY hl4 hy⟩
        have HOB : As (∀ z, (Value.slice AX k cX).ownBlock = some z → z < wr.heap.size) := ⟨fun z hz => own_lt HD'.own z hz⟩
        have HNZ : As (w.heap.size + 1 ≤ wr.heap.size) := ⟨HD'.ord.2.2⟩
        have HNX : As ((mIter (k + 1) s1).1 = (mIter k s1).1 ++ [(strOfNums p, (y : Int))] ∧ (mIter (k + 1) s1).2 = if 1 ≤ p.length ∧ p.length ≤ 64 then s5 else none) := ⟨by simp only [mIter, hst, mStep, hp, hy, and_self]⟩
        have hX0 : w.heap.size < wr.heap.size := by have := HD'.ord; omega
        have HXB := As.mk hX0
        clear HD' hst hrest hl4 hp hy hX0
        obtain ⟨w5, rfl⟩ : ∃ w5, w5 = wr := ⟨_, rfl⟩
        go_upto_region 7 with fail
        go_cut [8] from 14 to 41 (fun v wx => ∃ X, v = .pointer (some ⟨X, 0, none⟩) ∧ As (MR w wx w.heap.size (w.heap.size + 1) (.slice AX k cX) k (mIter k s1).1 s5 ∧ PlAt wx X (strOfNums p) y ∧ w.heap.size < X))
        case first =>
          go_region_law (first
            | (go_simp; go_at_call 36; (first | (refine (HBYX.out _ (Kp.refl [] _).drew).mono ?_; rintro e w6 HP; obtain ⟨A6, n6, c6, rfl, hn6, h6, r6, k6⟩ := HP) | (refine (HBYX.out _ ((Kp.refl [] _).drew.alloc _)).mono ?_; rintro e w6 HP; obtain ⟨A6, n6, c6, rfl, hn6, h6, r6, k6⟩ := HP; have HZ6 : As (PlAt w6 w5.heap.size ⟨#[]⟩ 0) := ⟨(PlAt.new w5.drew ⟨#[]⟩ 0).kp k6 (by have := HXB.out; simp; omega)⟩; obtain ⟨z60, z61⟩ := HZ6.out.cells; have f60 := HZ6.out.free 0; have f61 := HZ6.out.free 1)); have HS6 : As (w5.heap.size ≤ w6.heap.size) := ⟨by have := k6.size; simp at this; omega⟩; have HD6 := As.mk h6; have HN6 := As.mk hn6; have HR6 := As.mk r6; have hcv := conv_str (c := c6) hn6 (r6 w6 (Kp.refl _ _)); have hcva := fun o => conv_str (c := c6) hn6 (r6 (w6.alloc o) ((Kp.refl _ _).alloc _)); clear hn6 h6 r6 k6)
            | (go_simp; go_at_call 35; refine (HNUX.out _ (by first | exact HD6.out | exact HD6.out.skip ((Kp.refl [] _).alloc _))).mono ?_; rintro e w7 HP; obtain ⟨rfl, h7, k7⟩ := HP; have HD7 := As.mk h7; have k67 : Kp [w.heap.size] w6 w7 := (by first | exact k7 | exact ((Kp.refl [w.heap.size] _).alloc _).trans k7 (fun x hx => .inl hx)); have hcv7 := conv_str (c := c6) HN6.out (HR6.out w7 k67); have hcva7 := fun o => conv_str (c := c6) HN6.out (HR6.out (w7.alloc o) (k67.alloc o)); (first | (have HZ7 := As.mk (HZ6.out.kp k7 (by have := HXB.out; simp; omega)); obtain ⟨z70, z71⟩ := HZ7.out.cells; have f70 := HZ7.out.free 0; have f71 := HZ7.out.free 1) | (have HZ7 : As (PlAt w7 w6.heap.size ⟨#[]⟩ 0) := ⟨(PlAt.new w6 ⟨#[]⟩ 0).kp k7 (by have := HD6.out.ord; simp; omega)⟩; obtain ⟨z70, z71⟩ := HZ7.out.cells; have f70 := HZ7.out.free 0; have f71 := HZ7.out.free 1) | skip); clear h7 k7 k67))
          all_goals go_wp2_with fail
          all_goals go_meet
          all_goals first
            | exact ⟨_, rfl, ⟨HD7.out.made HZ7.out (by have := HS6.out; have := HNZ.out; omega) (fun z hz => by have := HOB.out z hz; have := HS6.out; omega) _ _⟩⟩
            | exact ⟨_, rfl, ⟨HD7.out.laid _ _⟩⟩
        case rest =>
          obtain ⟨X, rfl, HQ⟩ := hcut
          obtain ⟨e0, e1⟩ := HQ.out.2.1.cells
          have hXlt : X < wc.heap.size := lt_of_block HQ.out.2.1
          by_cases hkey : 1 ≤ p.length ∧ p.length ≤ 64
          · have HI := As.mk (key_any (strOfNums p) wc)
            rw [str_size, decide_eq_true hkey] at HI
            have HNX2 := HNX.out.2
            rw [if_pos hkey] at HNX2
            have HNY := As.mk (And.intro HNX.out.1 HNX2)
            clear HNX2 HNX hkey
            go_wp2_with (first
              | (go_at_call 79; refine HI.out.mono ?_; rintro e w8 ⟨rfl, rfl⟩; clear HI)
              | (at_builtin; refine refr.appM rfl (.tmp 38) (.tmp 40) rfl (.slice AX k cX) k (mv (mIter k s1).1) rfl (((Kp.refl [] _).alloc _).own HQ.out.1.own (by simp)) w8.heap.size (strOfNums p) y rfl (PlAt.new w8 _ _) (by omega) ?_; intro v9 w9 o9 k9 a9; have h9 := (HQ.out.1.skip ((Kp.refl [] _).alloc _)).put (m := (strOfNums p, (y : Int))) o9 k9 a9; obtain ⟨A9, c9, rfl, _⟩ := own_rd o9; have HD9 := As.mk h9; clear o9 k9 a9 h9))
            go_roundw
            case rel => exact ⟨k + 1, c9, A9, by go_num, rfl, by omega, ⟨by rw [HNY.out.1, HNY.out.2]; exact HD9.out⟩⟩
            case measure => simp [intOf]; omega
          · have HI := As.mk (key_any (strOfNums p) wc)
            rw [str_size, decide_eq_false hkey] at HI
            have HNX2 := HNX.out.2
            rw [if_neg hkey] at HNX2
            have HNY := As.mk (And.intro HNX.out.1 HNX2)
            have HBD := As.mk (take_bad HQ.out.1)
            clear HNX2 HNX hkey
            go_wp2_with (first
              | (go_at_call 79; refine HI.out.mono ?_; rintro e w8 ⟨rfl, rfl⟩; clear HI)
              | (go_at_call 78; refine HBD.out.mono ?_; rintro e w8' ⟨rfl, h8, k8⟩; have HB8 := As.mk h8; obtain ⟨e80, e81⟩ := (HQ.out.2.1.kp k8 (by have := HQ.out.2.2; simp; omega)).cells; have hX8 : X < w8'.heap.size := (by have := k8.size; omega); clear h8 k8 HBD)
              | (at_builtin; refine refr.appM rfl (.tmp 38) (.tmp 40) rfl (.slice AX k cX) k (mv (mIter k s1).1) rfl (((Kp.refl [] _).alloc _).own HB8.out.own (by simp)) w8'.heap.size (strOfNums p) y rfl (PlAt.new w8' _ _) (by omega) ?_; intro v9 w9 o9 k9 a9; have h9 := (HB8.out.skip ((Kp.refl [] _).alloc _)).put (m := (strOfNums p, (y : Int))) o9 k9 a9; obtain ⟨A9, c9, rfl, _⟩ := own_rd o9; have HD9 := As.mk h9; clear o9 k9 a9 h9))
            go_roundw
            case rel => exact ⟨k + 1, c9, A9, by go_num, rfl, by omega, ⟨by rw [HNY.out.1, HNY.out.2]; exact HD9.out⟩⟩
            case measure => simp [intOf]; omega
    · obtain rfl : k = N := by omega
      have HWH := As.mk (take_whole HD.out)
      cases hwh : whole (mIter k s1).2 with
      | false =>
        have HZ : As (dMs xs = ([], 3)) := ⟨by rw [HE.out, if_neg]; intro h9; rw [h9] at hwh; simp [whole] at hwh⟩
        rw [hwh] at HWH
        clear hwh
        go_wp2_with (go_at_call 37; refine HWH.out.mono ?_; rintro e w6 ⟨rfl, rfl⟩; clear HWH)
        go_ret2
        exact dms_none HZ.out HD.out.kp
      | true =>
        have HZ : As (dMs xs = ((mIter k s1).1, 0)) := ⟨by rw [HE.out, if_pos]; simpa [whole] using hwh⟩
        rw [hwh] at HWH
        clear hwh
        go_wp2_with (go_at_call 37; refine HWH.out.mono ?_; rintro e w6 ⟨rfl, rfl⟩; clear HWH)
        go_ret2
        obtain ⟨A9, c9, h9, hc9, _, r9, n9⟩ := own_rd HD.out.own
        cases h9
        exact ⟨_, _, AX, k, cX, HZ.out, rfl, mIter_len k s1, r9, hc9, n9, HD.out.kp⟩
end Go.Proofs.YtdiljpdohmeceaaGreat.ref13

/- haystacklaw13.matches -/
namespace Go.Proofs.YtdiljpdohmeceaaGreat.haystacklaw13
open Go.RowKit H O opk

end Go.Proofs.YtdiljpdohmeceaaGreat.haystacklaw13

/- op.DecodeReply: the walk. -/
namespace Go.Proofs.YtdiljpdohmeceaaGreat.opk
open Go.RowKit H O haystacklaw13

theorem res_rep {fn : Func} {tmps : Array Value} {w : World} {R : Nat} {er : Int} {v : Value} (hf : fn.results = #[.cell 2 157, .tmp 3]) (h2 : tmps.getD 2 undef = .pointer (some ⟨R, 0, none⟩)) (h : RepAt w R er v) :
    (results fn tmps).run Tryz.prog w = .ok (.tuple #[.agg #[.int .i64 er, v], tmps.getD 3 undef]) w := by
  have hl := run_loadVar_row (P := Tryz.prog) w R 157 157 _ (0, 0) _ h Tryz.underlying157 rfl (by kernel_rfl)
  rw [results_cell_tmp hf, h2]
  simp [asAddr, hl, Result.andThen]
theorem rep_set {w w7 : World} {er0 : Int} {v0 : Value} (hk : Kp [] w w7) (h : RepAt w7 w.heap.size er0 v0) (er : Int) (v : Value) :
    RepAt ((w7.setCell ⟨w.heap.size, 0, none⟩ (.int .i64 er)).setCell ⟨w.heap.size, 1, none⟩ v) w.heap.size er v ∧ Kp [] w ((w7.setCell ⟨w.heap.size, 0, none⟩ (.int .i64 er)).setCell ⟨w.heap.size, 1, none⟩ v) ∧ Kp [w.heap.size] w7 ((w7.setCell ⟨w.heap.size, 0, none⟩ (.int .i64 er)).setCell ⟨w.heap.size, 1, none⟩ v) := by
  have e1 : RepAt (w7.setCell ⟨w.heap.size, 0, none⟩ (.int .i64 er)) w.heap.size er v0 := heap_setCell_same w7 w.heap.size 0 _ _ (.int .i64 er) h
  have e2 : RepAt ((w7.setCell ⟨w.heap.size, 0, none⟩ (.int .i64 er)).setCell ⟨w.heap.size, 1, none⟩ v) w.heap.size er v := heap_setCell_same _ w.heap.size 1 _ _ v e1
  have kk : Kp [w.heap.size] w7 ((w7.setCell ⟨w.heap.size, 0, none⟩ (.int .i64 er)).setCell ⟨w.heap.size, 1, none⟩ v) := ((Kp.refl _ w7).setCell (.inl (by simp)) _).setCell (.inl (by simp)) _
  exact ⟨e2, hk.trans kk (by simp), kk⟩
theorem drep_none {xs : List Int} {w w' : World} (h : dRep xs = (0, [], 3)) (k : Kp [] w w') : DRep xs w (.returned (.tuple #[.agg #[.int .i64 0, .slice none 0 0], .int .i64 3])) w' :=
  ⟨0, [], 3, none, 0, 0, h, rfl, rfl, Rd.nil _ _, Nat.le_refl _, fun _ => rfl, k⟩
theorem DR.start {w w4 : World} {M b n0 n1 : Nat} {s : Option (List Int)} {g : Option Nat} (kp : Kp [] w w4) (res : RepAt w4 w.heap.size 0 (.slice none 0 0)) (many : w4.cell? ⟨M, 0, none⟩ = some (.int .i64 n1)) (R : reader.Rdr w4 b g s) (hg : ∀ y, g = some y → w.heap.size < y ∧ y < w4.heap.size) (hb : w.heap.size < b) (hM : w.heap.size < M) (hMb : M ≠ b) :
    DR w (w4.alloc (.cells #[.int .i64 n0, .slice none 0 0] 157)) M b w4.heap.size n0 n1 (.slice none 0 0) [] s := by
  have ka := (Kp.refl [] w4).alloc (.cells #[.int .i64 n0, .slice none 0 0] 157)
  exact ⟨kp.trans ka (by simp), res.kp ka (by simp), ka.cell many (by simp), heap_alloc_new w4 _, World.ownsRow_nil _ 0 _ 1, by simp [Value.ownBlock], ⟨g, R.kp ka (by simp) (by simp), hg⟩, hb, hM, R.lt, World.block_lt_of_cell? w4 _ many, hMb⟩

set_option maxHeartbeats 8000000 in
set_option maxRecDepth 100000 in
theorem decRep_any (A : Option Addr) (n c : Nat) (xs : List Int) (w : World) (hn : xs.length = n) (hr : Rd w A (iv .u8 xs)) (hnil : A = none → c = 0) (hw : Wf xs) (hm : n ≤ 1000000) :
    Calls Tryz.prog 85 #[.slice A n c] w (DRep xs w) := by
  have HNEW : As (∀ wX, Kp [] w wX → Calls Tryz.prog 86 #[.slice A n c] wX (reader.NewRdr xs wX)) := ⟨fun wX k => reader.new_any A n c xs wX hn (k.rd_new hr (by simp)) hnil (by omega) hw⟩
  obtain ⟨n0, s1, h0⟩ : ∃ a b, stNum (some xs) = (a, b) := ⟨_, _, rfl⟩
  obtain ⟨n1, s2, h1⟩ : ∃ a b, stNum s1 = (a, b) := ⟨_, _, rfl⟩
  obtain ⟨s', hs'⟩ : ∃ s', sRep n0 n1 s2 = s' := ⟨_, rfl⟩
  have he := dRep_eq h0 h1
  simp only [hs'] at he
  have hl0 : (left (some xs)).length ≤ 140737488351232 := by simp [left]; omega
  have hl2 : (left s2).length ≤ 140737488351232 := by
    have q1 := reader.left_le hl0
    rw [h0] at q1
    have q2 := reader.left_le q1
    rwa [h1] at q2
  have hl' : (left s').length ≤ 140737488351232 := by
    rw [← hs', sRep]
    split
    · exact hl2
    · simp [left]
  have hn1 : s' ≠ none → n1 ≤ 8 := by
    intro h
    rw [← hs', sRep] at h
    split at h
    · rename_i h9; exact h9.2
    · exact absurd rfl h
  have HE := As.mk he
  have H0 := As.mk h0
  have H1 := As.mk h1
  have HL0 := As.mk hl0
  have HL' := As.mk hl'
  have HN1 := As.mk hn1
  clear he h0 h1 hl0 hl2 hl' hn1 hn hr hnil hw
  by_cases hok : n0 ≤ 100 ∧ n1 ≤ 8
  · obtain ⟨ha, hb⟩ := hok
    have hss : s2 = s' := by rw [← hs', sRep, if_pos ⟨ha, hb⟩]
    obtain rfl : s' = s2 := hss.symm
    clear hs'
    go_enter Tryz.func85, Tryz.ntmps85
    go_wp2_with (first
      | (go_at_call 86; refine (HNEW.out _ ((Kp.refl [] w).alloc _)).mono ?_; rintro e w2 ⟨b, g, rfl, R2, hb2, hg2, K2⟩; have r2 : RepAt w2 w.heap.size 0 (.slice none 0 0) := K2.blk (heap_alloc_new w _) (by simp); have HK2 : As (Kp [] w w2) := ⟨((Kp.refl [] w).alloc _).trans K2 (by simp)⟩; rw [World.size_alloc] at hb2 hg2; have HBS := As.mk hb2; have HGS := As.mk hg2; have HBL := As.mk R2.lt; have HQ2 := As.mk r2; have HNU := As.mk (rep_nums R2 (fun x hx => (hg2 x hx).2) HL0.out H0.out H1.out); clear R2 hb2 hg2 K2 r2 HNEW)
      | (go_at_call 115; refine HNU.out.mono ?_; rintro e w3 ⟨rfl, ⟨g3, R3, G3⟩, d0, d1, k3, s3⟩; have HK3 : As (Kp [] w w3) := ⟨HK2.out.trans k3 (by intro x hx; simp at hx; have := HBS.out; omega)⟩; have HST := As.mk (DR.start (n0 := n0) HK3.out (HQ2.out.kp k3 (by have := HBS.out; simp; omega)) d1 R3 (fun y hy => by have h9 : g = some y := (by rcases G3 with h | h; rw [← h]; exact hy; rw [h] at hy; cases hy); have h8 := HGS.out y h9; have h7 := k3.size; omega) (by have := HBS.out; omega) (by have := HK2.out.size; omega) (by have := HBL.out; omega)); clear R3 G3 k3 s3 HNU))
    go_loopw [31] (fun _ wr => ∃ (k cX : Nat) (AX : Option Addr), k ≤ n1 ∧ As (DR w wr (w2.heap.size + 1) b w3.heap.size n0 n1 (.slice AX k cX) (stNums k s').1 (stNums k s').2)) (fun _ wr => n1 - lenAt wr w3.heap.size)
    case atStart => exact ⟨0, 0, none, by omega, ⟨HST.out⟩⟩
    case round =>
      obtain ⟨k, cX, AX, hk, HD⟩ := hrel
      obtain ⟨e0, e1⟩ := HD.out.x.cells
      have dm := HD.out.many
      have hlen := HD.out.x.lenAt
      obtain ⟨gk, hRk, hgk⟩ := HD.out.rdr
      have hlk := reader.stNums_len k s'
      have hleft := reader.stNums_left (k := k) HL'.out
      by_cases hlt : k < n1
      · cases hst : (stNums k s').2 with
        | none =>
          rw [hst] at hRk HD
          have HG : As (Calls Tryz.prog 117 #[.pointer (some ⟨b, 0, none⟩)] wr fun e w' => e = .returned (.bool false) ∧ w' = wr) := ⟨reader.good_any b gk none wr hRk⟩
          have HWH : As (Calls Tryz.prog 90 #[.pointer (some ⟨b, 0, none⟩)] wr fun e w' => e = .returned (.bool false) ∧ w' = wr) := ⟨reader.whole_any b gk none wr hRk⟩
          have HZ : As (dRep xs = (0, [], 3)) := ⟨by rw [HE.out, stNums_stay hst (by omega), if_neg (by simp)]⟩
          obtain ⟨q0, q1⟩ := HD.out.res.cells
          have f0 := HD.out.res.free 0
          have f1 := HD.out.res.free 1
          clear hRk hgk hst hleft hlk
          go_wp2_with (first
            | (go_at_call 117; refine HG.out.mono ?_; rintro e w5 ⟨rfl, rfl⟩; clear HG)
            | (go_at_call 90; refine HWH.out.mono ?_; rintro e w6 ⟨rfl, rfl⟩; clear HWH))
          have hz := rep_set HD.out.kp HD.out.res 0 (.slice none 0 0)
          (try simp only [Exit.inBlock, Exit.then])
          refine bodyPost_ret (res_rep rfl rfl hz.1) rfl ?_
          exact drep_none HZ.out hz.2.1
        | some rest =>
          have hs9 : s' ≠ none := by intro h; rw [h, stNums_none] at hst; cases hst
          have hn8 : n1 ≤ 8 := HN1.out hs9
          rw [hst] at hRk HD hleft
          have HG : As (Calls Tryz.prog 117 #[.pointer (some ⟨b, 0, none⟩)] wr fun e w' => e = .returned (.bool true) ∧ w' = wr) := ⟨reader.good_any b gk (some rest) wr hRk⟩
          obtain ⟨y, st', hy⟩ : ∃ a b, stNum (some rest) = (a, b) := ⟨_, _, rfl⟩
          have hnm := reader.num_any b gk (some rest) wr.drew (hRk.kp ((Kp.refl [] wr).drew) (by simp) (by simp)) hleft
          rw [hy] at hnm
          have HNM := As.mk hnm
          have HDD := As.mk (HD.out.skip ((Kp.refl [] wr).drew))
          have HGK := As.mk hgk
          have HLK := As.mk hlk
          have HNX : As ((stNums (k + 1) s').1 = (stNums k s').1 ++ [(y : Int)] ∧ (stNums (k + 1) s').2 = st') := ⟨by rw [reader.stNums_snoc, hst, hy]; exact ⟨rfl, rfl⟩⟩
          have hXlt : w3.heap.size < wr.heap.size := lt_of_block HD.out.x
          clear hRk hgk hst hleft hlk hs9 hnm hy
          go_wp2_with (go_at_call 117; refine HG.out.mono ?_; rintro e w5 ⟨rfl, rfl⟩; clear HG)
          go_region_law (first
            | (refine step64_one rfl (.tmp 33) (.tmp 36) rfl (.slice AX k cX) k (iv .i64 (stNums k s').1) rfl (by have h9 := HD6.out.own; rw [HLK.out] at h9; exact h9.alloc _) w6.heap.size (y : Int) rfl (by simp) (by omega) ?_; intro v7 w7 o7 k7 a7; have h7 := (HD6.out.skip ((Kp.refl [] w6).alloc _)).put HLK.out o7 k7 a7; obtain ⟨x7, z7, h7⟩ := h7; obtain ⟨A7, c7, rfl, _⟩ := own_rd o7; have HD7 := As.mk h7; clear o7 k7 a7 h7)
            | (go_simp; go_at_call 87; refine HNM.out.mono ?_; rintro e w6 HP; obtain ⟨rfl, g6, R6, G6, K6⟩ := HP; have h6 := HDD.out.took HGK.out R6 G6 K6; have HD6 := As.mk h6; obtain ⟨e60, e61⟩ := h6.x.cells; have hX6 : w3.heap.size < w6.heap.size := lt_of_block h6.x; clear R6 G6 K6 h6 HNM))
          all_goals
            go_roundw
            case rel => exact ⟨_, _, _, _, _, _, _, _, _, _, _, _, _, _, _, _, ⟨k + 1, c7, A7, by omega, ⟨by rw [HNX.out.1, HNX.out.2]; exact HD7.out⟩⟩, rfl⟩
            case measure => rw [HD7.out.x.lenAt, hlen]; omega
      · obtain rfl : k = n1 := by omega
        have HWHX : As (Calls Tryz.prog 90 #[.pointer (some ⟨b, 0, none⟩)] wr fun e w' => e = .returned (.bool (reader.whole (stNums k s').2)) ∧ w' = wr) := ⟨reader.whole_any b gk _ wr hRk⟩
        obtain ⟨q0, q1⟩ := HD.out.res.cells
        have f0 := HD.out.res.free 0
        have f1 := HD.out.res.free 1
        cases hwh : reader.whole (stNums k s').2 with
        | false =>
          have HZ : As (dRep xs = (0, [], 3)) := ⟨by rw [HE.out, if_neg]; intro h9; rw [h9] at hwh; simp [reader.whole] at hwh⟩
          rw [hwh] at HWHX
          clear hRk hgk hleft hlk hwh
          go_wp2_with (go_at_call 90; refine HWHX.out.mono ?_; rintro e w6 ⟨rfl, rfl⟩; clear HWHX)
          have hz := rep_set HD.out.kp HD.out.res 0 (.slice none 0 0)
          (try simp only [Exit.inBlock, Exit.then])
          refine bodyPost_ret (res_rep rfl rfl hz.1) rfl ?_
          exact drep_none HZ.out hz.2.1
        | true =>
          have HZ : As (dRep xs = ((n0 : Int), (stNums k s').1, 0)) := ⟨by rw [HE.out, if_pos]; simpa [reader.whole] using hwh⟩
          rw [hwh] at HWHX
          have HLK := As.mk hlk
          have HOWN : As (wr.ownsRow 0 3 1 (.slice AX k cX) k (iv .i64 (stNums k s').1)) := ⟨by have h8 := HD.out.own; rwa [hlk] at h8⟩
          clear hRk hgk hleft hlk hwh
          go_wp2_with (go_at_call 90; refine HWHX.out.mono ?_; rintro e w6 ⟨rfl, rfl⟩; clear HWHX)
          have hz := rep_set HD.out.kp HD.out.res n0 (.slice AX k cX)
          obtain ⟨A9, c9, h9, hc9, _, r9, n9⟩ := own_rd HOWN.out
          cases h9
          (try simp only [Exit.inBlock, Exit.then])
          refine bodyPost_ret (res_rep rfl rfl hz.1) rfl ?_
          refine ⟨_, _, _, AX, k, cX, HZ.out, rfl, HLK.out, ?_, by have := HLK.out; omega, n9, hz.2.1⟩
          exact hz.2.2.rd r9 (fun a ha hm => by have h9 := HD.out.lo a.block (by rw [ha]; rfl); have h8 := HD.out.ord; simp at hm; omega)
  · have hs0 : s' = none := by rw [← hs', sRep, if_neg hok]
    clear hs'
    by_cases ha : 100 < n0
    · clear hok
      go_enter Tryz.func85, Tryz.ntmps85
      go_wp2_with (first
        | (go_at_call 86; refine (HNEW.out _ ((Kp.refl [] w).alloc _)).mono ?_; rintro e w2 ⟨b, g, rfl, R2, hb2, hg2, K2⟩; have r2 : RepAt w2 w.heap.size 0 (.slice none 0 0) := K2.blk (heap_alloc_new w _) (by simp); have HK2 : As (Kp [] w w2) := ⟨((Kp.refl [] w).alloc _).trans K2 (by simp)⟩; rw [World.size_alloc] at hb2 hg2; have HBS := As.mk hb2; have HGS := As.mk hg2; have HBL := As.mk R2.lt; have HQ2 := As.mk r2; have HNU := As.mk (rep_nums R2 (fun x hx => (hg2 x hx).2) HL0.out H0.out H1.out); clear R2 hb2 hg2 K2 r2 HNEW)
        | (go_at_call 115; refine HNU.out.mono ?_; rintro e w3 ⟨rfl, ⟨g3, R3, G3⟩, d0, d1, k3, s3⟩; have HK3 : As (Kp [] w w3) := ⟨HK2.out.trans k3 (by intro x hx; simp at hx; have := HBS.out; omega)⟩; have HQ3 := As.mk (HQ2.out.kp k3 (by have := HBS.out; simp; omega)); have HG3 : As (∀ y, g3 = some y → w.heap.size < y ∧ y < w3.heap.size) := ⟨fun y hy => by have h9 : g = some y := (by rcases G3 with h | h; rw [← h]; exact hy; rw [h] at hy; cases hy); have h8 := HGS.out y h9; have h7 := k3.size; omega⟩; have HBD := As.mk (reader.bad_any b g3 s2 w3 R3); clear R3 G3 k3 s3 HNU)
        | (go_at_call 89; refine HBD.out.mono ?_; rintro e w4 HP; obtain ⟨rfl, g4, R4, G4, K4⟩ := HP; have d04 := K4.cell d0 (by have := HBL.out; simp; omega); have d14 := K4.cell d1 (by have := HBL.out; simp; omega); have HK4 : As (Kp [] w w4) := ⟨HK3.out.trans K4 (by intro x hx; simp at hx; have := HBS.out; omega)⟩; rw [← hs0] at R4; have HST := As.mk (DR.start (n0 := n0) HK4.out (HQ3.out.kp K4 (by have := HBS.out; simp; omega)) d14 R4 (fun y hy => by have h9 : g3 = some y := (by rcases G4 with h | h; rw [← h]; exact hy; rw [h] at hy; cases hy); have h8 := HG3.out y h9; have h7 := K4.size; omega) (by have := HBS.out; omega) (by have := HK2.out.size; omega) (by have := HBL.out; omega)); clear R4 G4 K4 d0 d1 HBD))
      go_loopw [31] (fun _ wr => ∃ (k cX : Nat) (AX : Option Addr), k ≤ n1 ∧ As (DR w wr (w2.heap.size + 1) b w4.heap.size n0 n1 (.slice AX k cX) (stNums k s').1 (stNums k s').2)) (fun _ wr => n1 - lenAt wr w4.heap.size)
      case atStart => exact ⟨0, 0, none, by omega, ⟨HST.out⟩⟩
      case round =>
        obtain ⟨k, cX, AX, hk, HD⟩ := hrel
        obtain ⟨e0, e1⟩ := HD.out.x.cells
        have dm := HD.out.many
        have hlen := HD.out.x.lenAt
        obtain ⟨gk, hRk, hgk⟩ := HD.out.rdr
        have hlk := reader.stNums_len k s'
        have hleft := reader.stNums_left (k := k) HL'.out
        by_cases hlt : k < n1
        · cases hst : (stNums k s').2 with
          | none =>
            rw [hst] at hRk HD
            have HG : As (Calls Tryz.prog 117 #[.pointer (some ⟨b, 0, none⟩)] wr fun e w' => e = .returned (.bool false) ∧ w' = wr) := ⟨reader.good_any b gk none wr hRk⟩
            have HWH : As (Calls Tryz.prog 90 #[.pointer (some ⟨b, 0, none⟩)] wr fun e w' => e = .returned (.bool false) ∧ w' = wr) := ⟨reader.whole_any b gk none wr hRk⟩
            have HZ : As (dRep xs = (0, [], 3)) := ⟨by rw [HE.out, stNums_stay hst (by omega), if_neg (by simp)]⟩
            obtain ⟨q0, q1⟩ := HD.out.res.cells
            have f0 := HD.out.res.free 0
            have f1 := HD.out.res.free 1
            clear hRk hgk hst hleft hlk
            go_wp2_with (first
              | (go_at_call 117; refine HG.out.mono ?_; rintro e w5 ⟨rfl, rfl⟩; clear HG)
              | (go_at_call 90; refine HWH.out.mono ?_; rintro e w6 ⟨rfl, rfl⟩; clear HWH))
            have hz := rep_set HD.out.kp HD.out.res 0 (.slice none 0 0)
            (try simp only [Exit.inBlock, Exit.then])
            refine bodyPost_ret (res_rep rfl rfl hz.1) rfl ?_
            exact drep_none HZ.out hz.2.1
          | some rest =>
            rw [hs0, stNums_none] at hst
            cases hst
        · obtain rfl : k = n1 := by omega
          have HWHX : As (Calls Tryz.prog 90 #[.pointer (some ⟨b, 0, none⟩)] wr fun e w' => e = .returned (.bool (reader.whole (stNums k s').2)) ∧ w' = wr) := ⟨reader.whole_any b gk _ wr hRk⟩
          obtain ⟨q0, q1⟩ := HD.out.res.cells
          have f0 := HD.out.res.free 0
          have f1 := HD.out.res.free 1
          cases hwh : reader.whole (stNums k s').2 with
          | false =>
            have HZ : As (dRep xs = (0, [], 3)) := ⟨by rw [HE.out, if_neg]; intro h9; rw [h9] at hwh; simp [reader.whole] at hwh⟩
            rw [hwh] at HWHX
            clear hRk hgk hleft hlk hwh
            go_wp2_with (go_at_call 90; refine HWHX.out.mono ?_; rintro e w6 ⟨rfl, rfl⟩; clear HWHX)
            have hz := rep_set HD.out.kp HD.out.res 0 (.slice none 0 0)
            (try simp only [Exit.inBlock, Exit.then])
            refine bodyPost_ret (res_rep rfl rfl hz.1) rfl ?_
            exact drep_none HZ.out hz.2.1
          | true =>
            have HZ : As (dRep xs = ((n0 : Int), (stNums k s').1, 0)) := ⟨by rw [HE.out, if_pos]; simpa [reader.whole] using hwh⟩
            rw [hwh] at HWHX
            have HLK := As.mk hlk
            have HOWN : As (wr.ownsRow 0 3 1 (.slice AX k cX) k (iv .i64 (stNums k s').1)) := ⟨by have h8 := HD.out.own; rwa [hlk] at h8⟩
            clear hRk hgk hleft hlk hwh
            go_wp2_with (go_at_call 90; refine HWHX.out.mono ?_; rintro e w6 ⟨rfl, rfl⟩; clear HWHX)
            have hz := rep_set HD.out.kp HD.out.res n0 (.slice AX k cX)
            obtain ⟨A9, c9, h9, hc9, _, r9, n9⟩ := own_rd HOWN.out
            cases h9
            (try simp only [Exit.inBlock, Exit.then])
            refine bodyPost_ret (res_rep rfl rfl hz.1) rfl ?_
            refine ⟨_, _, _, AX, k, cX, HZ.out, rfl, HLK.out, ?_, by have := HLK.out; omega, n9, hz.2.1⟩
            exact hz.2.2.rd r9 (fun a ha hm => by have h9 := HD.out.lo a.block (by rw [ha]; rfl); have h8 := HD.out.ord; simp at hm; omega)
    · have hb : 8 < n1 := by omega
      clear hok
      go_enter Tryz.func85, Tryz.ntmps85
      go_wp2_with (first
        | (go_at_call 86; refine (HNEW.out _ ((Kp.refl [] w).alloc _)).mono ?_; rintro e w2 ⟨b, g, rfl, R2, hb2, hg2, K2⟩; have r2 : RepAt w2 w.heap.size 0 (.slice none 0 0) := K2.blk (heap_alloc_new w _) (by simp); have HK2 : As (Kp [] w w2) := ⟨((Kp.refl [] w).alloc _).trans K2 (by simp)⟩; rw [World.size_alloc] at hb2 hg2; have HBS := As.mk hb2; have HGS := As.mk hg2; have HBL := As.mk R2.lt; have HQ2 := As.mk r2; have HNU := As.mk (rep_nums R2 (fun x hx => (hg2 x hx).2) HL0.out H0.out H1.out); clear R2 hb2 hg2 K2 r2 HNEW)
        | (go_at_call 115; refine HNU.out.mono ?_; rintro e w3 ⟨rfl, ⟨g3, R3, G3⟩, d0, d1, k3, s3⟩; have HK3 : As (Kp [] w w3) := ⟨HK2.out.trans k3 (by intro x hx; simp at hx; have := HBS.out; omega)⟩; have HQ3 := As.mk (HQ2.out.kp k3 (by have := HBS.out; simp; omega)); have HG3 : As (∀ y, g3 = some y → w.heap.size < y ∧ y < w3.heap.size) := ⟨fun y hy => by have h9 : g = some y := (by rcases G3 with h | h; rw [← h]; exact hy; rw [h] at hy; cases hy); have h8 := HGS.out y h9; have h7 := k3.size; omega⟩; have HBD := As.mk (reader.bad_any b g3 s2 w3 R3); clear R3 G3 k3 s3 HNU)
        | (go_at_call 89; refine HBD.out.mono ?_; rintro e w4 HP; obtain ⟨rfl, g4, R4, G4, K4⟩ := HP; have d04 := K4.cell d0 (by have := HBL.out; simp; omega); have d14 := K4.cell d1 (by have := HBL.out; simp; omega); have HK4 : As (Kp [] w w4) := ⟨HK3.out.trans K4 (by intro x hx; simp at hx; have := HBS.out; omega)⟩; rw [← hs0] at R4; have HST := As.mk (DR.start (n0 := n0) HK4.out (HQ3.out.kp K4 (by have := HBS.out; simp; omega)) d14 R4 (fun y hy => by have h9 : g3 = some y := (by rcases G4 with h | h; rw [← h]; exact hy; rw [h] at hy; cases hy); have h8 := HG3.out y h9; have h7 := K4.size; omega) (by have := HBS.out; omega) (by have := HK2.out.size; omega) (by have := HBL.out; omega)); clear R4 G4 K4 d0 d1 HBD))
      go_loopw [31] (fun _ wr => ∃ (k cX : Nat) (AX : Option Addr), k ≤ n1 ∧ As (DR w wr (w2.heap.size + 1) b w4.heap.size n0 n1 (.slice AX k cX) (stNums k s').1 (stNums k s').2)) (fun _ wr => n1 - lenAt wr w4.heap.size)
      case atStart => exact ⟨0, 0, none, by omega, ⟨HST.out⟩⟩
      case round =>
        obtain ⟨k, cX, AX, hk, HD⟩ := hrel
        obtain ⟨e0, e1⟩ := HD.out.x.cells
        have dm := HD.out.many
        have hlen := HD.out.x.lenAt
        obtain ⟨gk, hRk, hgk⟩ := HD.out.rdr
        have hlk := reader.stNums_len k s'
        have hleft := reader.stNums_left (k := k) HL'.out
        by_cases hlt : k < n1
        · cases hst : (stNums k s').2 with
          | none =>
            rw [hst] at hRk HD
            have HG : As (Calls Tryz.prog 117 #[.pointer (some ⟨b, 0, none⟩)] wr fun e w' => e = .returned (.bool false) ∧ w' = wr) := ⟨reader.good_any b gk none wr hRk⟩
            have HWH : As (Calls Tryz.prog 90 #[.pointer (some ⟨b, 0, none⟩)] wr fun e w' => e = .returned (.bool false) ∧ w' = wr) := ⟨reader.whole_any b gk none wr hRk⟩
            have HZ : As (dRep xs = (0, [], 3)) := ⟨by rw [HE.out, stNums_stay hst (by omega), if_neg (by simp)]⟩
            obtain ⟨q0, q1⟩ := HD.out.res.cells
            have f0 := HD.out.res.free 0
            have f1 := HD.out.res.free 1
            clear hRk hgk hst hleft hlk
            go_wp2_with (first
              | (go_at_call 117; refine HG.out.mono ?_; rintro e w5 ⟨rfl, rfl⟩; clear HG)
              | (go_at_call 90; refine HWH.out.mono ?_; rintro e w6 ⟨rfl, rfl⟩; clear HWH))
            have hz := rep_set HD.out.kp HD.out.res 0 (.slice none 0 0)
            (try simp only [Exit.inBlock, Exit.then])
            refine bodyPost_ret (res_rep rfl rfl hz.1) rfl ?_
            exact drep_none HZ.out hz.2.1
          | some rest =>
            rw [hs0, stNums_none] at hst
            cases hst
        · obtain rfl : k = n1 := by omega
          have HWHX : As (Calls Tryz.prog 90 #[.pointer (some ⟨b, 0, none⟩)] wr fun e w' => e = .returned (.bool (reader.whole (stNums k s').2)) ∧ w' = wr) := ⟨reader.whole_any b gk _ wr hRk⟩
          obtain ⟨q0, q1⟩ := HD.out.res.cells
          have f0 := HD.out.res.free 0
          have f1 := HD.out.res.free 1
          cases hwh : reader.whole (stNums k s').2 with
          | false =>
            have HZ : As (dRep xs = (0, [], 3)) := ⟨by rw [HE.out, if_neg]; intro h9; rw [h9] at hwh; simp [reader.whole] at hwh⟩
            rw [hwh] at HWHX
            clear hRk hgk hleft hlk hwh
            go_wp2_with (go_at_call 90; refine HWHX.out.mono ?_; rintro e w6 ⟨rfl, rfl⟩; clear HWHX)
            have hz := rep_set HD.out.kp HD.out.res 0 (.slice none 0 0)
            (try simp only [Exit.inBlock, Exit.then])
            refine bodyPost_ret (res_rep rfl rfl hz.1) rfl ?_
            exact drep_none HZ.out hz.2.1
          | true =>
            have HZ : As (dRep xs = ((n0 : Int), (stNums k s').1, 0)) := ⟨by rw [HE.out, if_pos]; simpa [reader.whole] using hwh⟩
            rw [hwh] at HWHX
            have HLK := As.mk hlk
            have HOWN : As (wr.ownsRow 0 3 1 (.slice AX k cX) k (iv .i64 (stNums k s').1)) := ⟨by have h8 := HD.out.own; rwa [hlk] at h8⟩
            clear hRk hgk hleft hlk hwh
            go_wp2_with (go_at_call 90; refine HWHX.out.mono ?_; rintro e w6 ⟨rfl, rfl⟩; clear HWHX)
            have hz := rep_set HD.out.kp HD.out.res n0 (.slice AX k cX)
            obtain ⟨A9, c9, h9, hc9, _, r9, n9⟩ := own_rd HOWN.out
            cases h9
            (try simp only [Exit.inBlock, Exit.then])
            refine bodyPost_ret (res_rep rfl rfl hz.1) rfl ?_
            refine ⟨_, _, _, AX, k, cX, HZ.out, rfl, HLK.out, ?_, by have := HLK.out; omega, n9, hz.2.1⟩
            exact hz.2.2.rd r9 (fun a ha hm => by have h9 := HD.out.lo a.block (by rw [ha]; rfl); have h8 := HD.out.ord; simp at hm; omega)
end Go.Proofs.YtdiljpdohmeceaaGreat.opk

/- haystackref13.DecodeReply. -/
namespace Go.Proofs.YtdiljpdohmeceaaGreat.ref13
open Go.RowKit H O opk haystacklaw13 refr

/-- Where DecodeReply stands: the Reader of the call's own, and the numbers. -/
structure IR (w wr : World) (v : Value) (k : Nat) (l : List Int) (s : Option (List Int)) : Prop where
  kp : Kp [] w wr
  own : wr.ownsRow 0 3 1 v k (iv .i64 l)
  lo : ∀ y, v.ownBlock = some y → w.heap.size + 1 ≤ y
  rdr : ∃ g, Rdr wr w.heap.size g s ∧ ∀ y, g = some y → y < w.heap.size + 1
theorem IR.lt {w wr : World} {v : Value} {k : Nat} {l : List Int} {s : Option (List Int)} (h : IR w wr v k l s) : w.heap.size < wr.heap.size := by
  obtain ⟨g, hr, _⟩ := h.rdr
  exact hr.lt
theorem IR.skip {w wr w1 : World} {v : Value} {k : Nat} {l : List Int} {s : Option (List Int)} (h : IR w wr v k l s) (kk : Kp [] wr w1) : IR w w1 v k l s := by
  obtain ⟨g, hr, hg⟩ := h.rdr
  exact ⟨h.kp.trans kk (by simp), kk.own h.own (by simp), h.lo, ⟨g, hr.kp kk (by simp) (by simp), hg⟩⟩
theorem IR.took {w wr w1 : World} {v : Value} {k : Nat} {l : List Int} {s s' : Option (List Int)} {g g' : Option Nat} (h : IR w wr v k l s) (hg : ∀ y, g = some y → y < w.heap.size + 1) (R : Rdr w1 w.heap.size g' s') (G : g' = g ∨ g' = none) (kk : Kp [w.heap.size] wr w1) : IR w w1 v k l s' :=
  ⟨h.kp.trans kk (by intro x hx; simp at hx; omega), kk.own h.own (fun y hy => by have := h.lo y hy; simp; omega), h.lo, ⟨g', R, fun y hy => by rcases G with e | e; exact hg y (by rw [← e]; exact hy); rw [e] at hy; cases hy⟩⟩
theorem IR.put {w wr w2 : World} {v v' : Value} {k : Nat} {l : List Int} {s : Option (List Int)} {y : Int} (h : IR w wr v k l s) (o : w2.ownsRow 0 3 1 v' (k + 1) (iv .i64 l ++ [.int .i64 y])) (kk : Kp v.ownBlock.toList wr w2) (a : At wr.heap.size v.ownBlock v'.ownBlock) : IR w w2 v' (k + 1) (l ++ [y]) s := by
  obtain ⟨g, hr, hg⟩ := h.rdr
  have hl := h.lt
  have hS : ∀ i, i < w.heap.size + 1 → i ∉ v.ownBlock.toList := fun i hi hm => by have := h.lo i (by simpa using hm); omega
  exact ⟨h.kp.row kk (fun z hz => .inr (by have := h.lo z hz; omega)), by rw [iv_app]; exact o, a.ge (by omega) h.lo, ⟨g, hr.kp kk (hS _ (by omega)) (fun z hz => hS z (hg z hz)), hg⟩⟩
theorem IR.box {w : World} {A : Option Addr} {n c : Nat} {xs : List Int} (hn : xs.length = n) (hr : Rd w A (iv .u8 xs)) (hc : n ≤ c) (hc9 : c ≤ 9223372036854775807) (hnil : A = none → c = 0) (hA : ∀ a, A = some a → a.block < w.heap.size) (hw : Wf xs) :
    IR w (w.alloc (.cells #[.slice A n c, .bool false] 106)) (.slice none 0 0) 0 [] (some xs) :=
  ⟨(MR.box hn hr hc hc9 hnil hA hw).kp, World.ownsRow_nil _ 0 _ 1, by simp [Value.ownBlock], (MR.box hn hr hc hc9 hnil hA hw).rdr⟩
theorem IR.err {w wr : World} {v : Value} {k : Nat} {l : List Int} {s : Option (List Int)} (h : IR w wr v k l s) : wr.cell? ⟨w.heap.size, 1, none⟩ = some (.bool s.isNone) := by
  obtain ⟨g, ⟨A, c, h1, _⟩, _⟩ := h.rdr
  exact blk_cell h1 1 rfl
theorem IR.num {w wr : World} {v : Value} {k : Nat} {l : List Int} {s s4 : Option (List Int)} {y : Nat} (h : IR w wr v k l s) (hl : (left s).length ≤ 140737488351232) (hs : stNum s = (y, s4)) :
    Calls Tryz.prog 35 #[.pointer (some ⟨w.heap.size, 0, none⟩)] wr fun e w5 => e = .returned (.int .i64 (y : Int)) ∧ IR w w5 v k l s4 := by
  obtain ⟨g, R, hg⟩ := h.rdr
  refine (num_any _ g s wr R hl).mono ?_
  rw [hs]
  rintro e w5 ⟨rfl, g5, R5, G5, K5⟩
  exact ⟨rfl, h.took hg R5 G5 K5⟩
theorem IR.whole {w wr : World} {v : Value} {k : Nat} {l : List Int} {s : Option (List Int)} (h : IR w wr v k l s) :
    Calls Tryz.prog 37 #[.pointer (some ⟨w.heap.size, 0, none⟩)] wr fun e w5 => e = .returned (.bool (refr.whole s)) ∧ w5 = wr := by
  obtain ⟨g, R, hg⟩ := h.rdr
  exact whole_any _ g s wr R

/-- the first number -/
theorem IR.first {w : World} {A : Option Addr} {n c N : Nat} {xs : List Int} {s1 : Option (List Int)} (hn : xs.length = n) (hr : Rd w A (iv .u8 xs)) (hc : n ≤ c) (hc9 : c ≤ 9223372036854775807) (hnil : A = none → c = 0) (hA : (∀ a, A = some a → a.block < w.heap.size) ∨ n = 0) (hw : Wf xs) (hl : (left (some xs)).length ≤ 140737488351232) (h0 : stNum (some xs) = (N, s1)) :
    Calls Tryz.prog 35 #[.pointer (some ⟨w.heap.size, 0, none⟩)] (w.alloc (.cells #[.slice A n c, .bool false] 106)) fun e w5 => e = .returned (.int .i64 (N : Int)) ∧ IR w w5 (.slice none 0 0) 0 [] s1 := by
  rcases hA with hA | rfl
  · exact (IR.box hn hr hc hc9 hnil hA hw).num hl h0
  · obtain rfl : xs = [] := List.eq_nil_of_length_eq_zero hn
    have e0 : stNum (some []) = (0, none) := rfl
    rw [e0] at h0
    cases h0
    refine (num_empty (A := A) (c := c) (b := w.heap.size) (heap_alloc_new w _)).mono ?_
    rintro e w5 ⟨rfl, R5, K5⟩
    exact ⟨rfl, ⟨((Kp.refl [] w).alloc _).trans K5 (by simp), World.ownsRow_nil _ 0 _ 1, by simp [Value.ownBlock], ⟨none, R5, by simp⟩⟩⟩

/-- behind DecodeReply -/
def DRep (xs : List Int) (w : World) (e : Ending) (w' : World) : Prop :=
  ∃ (er : Int) (l : List Int) (z : Int) (A : Option Addr) (n c : Nat), dRep xs = (er, l, z) ∧ e = .returned (.tuple #[.int .i64 er, .slice A n c, .int .i64 z]) ∧ l.length = n ∧ Rd w' A (iv .i64 l) ∧ n ≤ c ∧ (A = none → c = 0) ∧ Kp [] w w'
theorem drep_none {xs : List Int} {w w' : World} (h : dRep xs = (0, [], 3)) (k : Kp [] w w') : DRep xs w (.returned (.tuple #[.int .i64 0, .slice none 0 0, .int .i64 3])) w' :=
  ⟨0, [], 3, none, 0, 0, h, rfl, rfl, Rd.nil _ _, Nat.le_refl _, fun _ => rfl, k⟩

set_option maxHeartbeats 8000000 in
set_option maxRecDepth 100000 in
theorem decRep_any (A : Option Addr) (n c : Nat) (xs : List Int) (w : World) (hn : xs.length = n) (hr : Rd w A (iv .u8 xs)) (hc : n ≤ c) (hc9 : c ≤ 9223372036854775807) (hnil : A = none → c = 0) (hA : (∀ a, A = some a → a.block < w.heap.size) ∨ n = 0) (hw : Wf xs) (hm : n ≤ 1000000) :
    Calls Tryz.prog 130 #[.slice A n c] w (DRep xs w) := by
  obtain ⟨n0, s1, h0⟩ : ∃ a b, stNum (some xs) = (a, b) := ⟨_, _, rfl⟩
  obtain ⟨n1, s2, h1⟩ : ∃ a b, stNum s1 = (a, b) := ⟨_, _, rfl⟩
  have HE : As (dRep xs = if n0 ≤ 100 ∧ n1 ≤ 8 ∧ (stNums n1 s2).2 = some [] then ((n0 : Int), (stNums n1 s2).1, 0) else (0, [], 3)) := ⟨by simp only [dRep, h0, h1]⟩
  have hl0 : (left (some xs)).length ≤ 140737488351232 := by simp [left]; omega
  have hl1 : (left s1).length ≤ 140737488351232 := by
    have q1 := refr.left_le hl0
    rwa [h0] at q1
  have hl2 : (left s2).length ≤ 140737488351232 := by
    have q1 := refr.left_le hl1
    rwa [h1] at q1
  have HN0 := As.mk (IR.first hn hr hc hc9 hnil hA hw hl0 h0)
  have HN1 : As (∀ wX, IR w wX (.slice none 0 0) 0 [] s1 → Calls Tryz.prog 35 #[.pointer (some ⟨w.heap.size, 0, none⟩)] wX fun e w5 => e = .returned (.int .i64 (n1 : Int)) ∧ IR w w5 (.slice none 0 0) 0 [] s2) := ⟨fun wX h => h.num hl1 h1⟩
  have HL2 := As.mk hl2
  clear h0 h1 hl0 hl1 hl2 hn hr hc hc9 hnil hA hw
  go_enter Tryz.func130, Tryz.ntmps130
  go_wp2_with (first
    | (go_at_call 35; refine (HN1.out _ HB1.out).mono ?_; rintro e w3 ⟨rfl, h3⟩; have HB3 := As.mk h3; clear h3 HN1 HB1)
    | (go_at_call 35; refine HN0.out.mono ?_; rintro e w2 ⟨rfl, h2⟩; have HB1 := As.mk h2; clear h2 HN0))
  go_loopw [8, 9] (fun v i wr => ∃ (k cX : Nat) (AX : Option Addr), i = .int .i64 (k : Int) ∧ v = .slice AX k cX ∧ k ≤ n1 ∧ k ≤ 9 ∧ As (IR w wr (.slice AX k cX) k (stNums k s2).1 (stNums k s2).2)) (fun _ i _ => n1 - (intOf i).toNat)
  case atStart => exact ⟨0, 0, none, rfl, rfl, by omega, by omega, HB3⟩
  case round =>
    obtain ⟨k, cX, AX, rfl, rfl, hk, hk9, HD⟩ := hrel
    by_cases hlt : k < n1
    · by_cases h9 : k < 9
      · have dE := HD.out.err
        cases hst : (stNums k s2).2 with
        | none =>
          rw [hst] at dE HD
          have HWH := As.mk HD.out.whole
          have HZ : As (dRep xs = (0, [], 3)) := ⟨by rw [HE.out, stNums_stay hst (by omega), if_neg (by simp)]⟩
          clear hst
          go_wp2_with (go_at_call 37; refine HWH.out.mono ?_; rintro e w6 ⟨rfl, rfl⟩; clear HWH)
          go_ret3
          exact drep_none HZ.out HD.out.kp
        | some rest =>
          rw [hst] at dE HD
          obtain ⟨y, st', hy⟩ : ∃ a b, stNum (some rest) = (a, b) := ⟨_, _, rfl⟩
          have HNM := As.mk (HD.out.num (by have := reader.stNums_left (k := k) HL2.out; rwa [hst] at this) hy)
          have HNX : As ((stNums (k + 1) s2).1 = (stNums k s2).1 ++ [(y : Int)] ∧ (stNums (k + 1) s2).2 = st') := ⟨by rw [reader.stNums_snoc, hst, hy]; exact ⟨rfl, rfl⟩⟩
          clear hst hy
          go_wp2_with (first
            | (go_at_call 35; refine HNM.out.mono ?_; rintro e w6 ⟨rfl, h6⟩; have HD6 := As.mk h6; clear h6 HNM)
            | (at_builtin; refine app64 rfl (.tmp 33) (.tmp 36) rfl (.slice AX k cX) k (iv .i64 (stNums k s2).1) rfl (((Kp.refl [] _).alloc _).own HD6.out.own (by simp)) (some ⟨w6.heap.size, 0, none⟩) 1 1 [.int .i64 (y : Int)] rfl rfl (rd_new w6 [.int .i64 (y : Int)] _) (by simp) (by simp [Value.oneCell']) (by omega) ?_; intro v9 w9 o9 k9 a9; have h9 := (HD6.out.skip ((Kp.refl [] _).alloc _)).put (y := (y : Int)) o9 k9 a9; obtain ⟨A9, c9, rfl, _⟩ := own_rd o9; have HD9 := As.mk h9; clear o9 k9 a9 h9))
          go_roundw
          case rel => exact ⟨k + 1, c9, A9, by go_num, rfl, by omega, by omega, ⟨by rw [HNX.out.1, HNX.out.2]; exact HD9.out⟩⟩
          case measure => simp [intOf]; omega
      · obtain rfl : k = 9 := by omega
        have hn8 : 8 < n1 := by omega
        have HZ : As (dRep xs = (0, [], 3)) := ⟨by rw [HE.out, if_neg (by omega)]⟩
        have HWH := As.mk HD.out.whole
        cases hwh : refr.whole (stNums 9 s2).2 with
        | false =>
          rw [hwh] at HWH
          clear hwh
          go_wp2_with (go_at_call 37; refine HWH.out.mono ?_; rintro e w6 ⟨rfl, rfl⟩; clear HWH)
          go_ret3
          exact drep_none HZ.out HD.out.kp
        | true =>
          rw [hwh] at HWH
          clear hwh
          by_cases h100 : 100 < n0
          · go_wp2_with (go_at_call 37; refine HWH.out.mono ?_; rintro e w6 ⟨rfl, rfl⟩; clear HWH)
            go_ret3
            exact drep_none HZ.out HD.out.kp
          · go_wp2_with (go_at_call 37; refine HWH.out.mono ?_; rintro e w6 ⟨rfl, rfl⟩; clear HWH)
            go_ret3
            exact drep_none HZ.out HD.out.kp
    · obtain rfl : k = n1 := by omega
      have HWH := As.mk HD.out.whole
      cases hwh : refr.whole (stNums k s2).2 with
      | false =>
        have HZ : As (dRep xs = (0, [], 3)) := ⟨by rw [HE.out, if_neg]; intro h9; rw [h9.2.2] at hwh; simp [refr.whole] at hwh⟩
        rw [hwh] at HWH
        clear hwh
        go_wp2_with (go_at_call 37; refine HWH.out.mono ?_; rintro e w6 ⟨rfl, rfl⟩; clear HWH)
        go_ret3
        exact drep_none HZ.out HD.out.kp
      | true =>
        by_cases h100 : 100 < n0
        · have HZ : As (dRep xs = (0, [], 3)) := ⟨by rw [HE.out, if_neg (by omega)]⟩
          rw [hwh] at HWH
          clear hwh
          go_wp2_with (go_at_call 37; refine HWH.out.mono ?_; rintro e w6 ⟨rfl, rfl⟩; clear HWH)
          go_ret3
          exact drep_none HZ.out HD.out.kp
        · by_cases h8 : 8 < k
          · have HZ : As (dRep xs = (0, [], 3)) := ⟨by rw [HE.out, if_neg (by omega)]⟩
            rw [hwh] at HWH
            clear hwh
            go_wp2_with (go_at_call 37; refine HWH.out.mono ?_; rintro e w6 ⟨rfl, rfl⟩; clear HWH)
            go_ret3
            exact drep_none HZ.out HD.out.kp
          · have HZ : As (dRep xs = ((n0 : Int), (stNums k s2).1, 0)) := ⟨by rw [HE.out, if_pos ⟨by omega, by omega, by simpa [refr.whole] using hwh⟩]⟩
            rw [hwh] at HWH
            clear hwh
            go_wp2_with (go_at_call 37; refine HWH.out.mono ?_; rintro e w6 ⟨rfl, rfl⟩; clear HWH)
            go_ret3
            obtain ⟨A9, c9, h9, hc9, _, r9, n9⟩ := own_rd HD.out.own
            cases h9
            exact ⟨_, _, _, AX, k, cX, HZ.out, rfl, reader.stNums_len k s2, r9, hc9, n9, HD.out.kp⟩
end Go.Proofs.YtdiljpdohmeceaaGreat.ref13

/- What is read is written so: the plain words. -/
namespace Go.Proofs.YtdiljpdohmeceaaGreat.O
open Go.RowKit H opk haystacklaw13

theorem decF_canon : ∀ (l : List Int) (i u v : Nat) (r : List Int), Wf l → decF i u l = some (v, r) → ∃ x, l = enc x ++ r ∧ v = u + x * 128 ^ i ∧ (i = 0 ∨ 0 < x)
  | [], i, u, v, r, _, h => by simp [decF] at h
  | c :: l, i, u, v, r, hw, h => by
    have hc := hw c (by simp)
    simp only [decF] at h
    split at h
    · cases h
    · rename_i h0
      split at h
      · split at h
        · cases h
        · simp only [Option.some.injEq, Prod.mk.injEq] at h
          obtain ⟨rfl, rfl⟩ := h
          refine ⟨c.toNat, ?_, rfl, by omega⟩
          rw [enc_lo (by omega)]
          simp only [List.cons_append, List.nil_append, List.cons.injEq, and_true]
          omega
      · obtain ⟨x, rfl, rfl, hx⟩ := decF_canon l (i + 1) _ v r (fun y hy => hw y (by simp [hy])) h
        refine ⟨c.toNat - 128 + 128 * x, ?_, ?_, .inr (by omega)⟩
        · rw [enc_hi (u := c.toNat - 128 + 128 * x) (by omega)]
          have e1 : (c.toNat - 128 + 128 * x) / 128 = x := by omega
          rw [e1, List.cons_append, List.cons.injEq]
          exact ⟨by omega, rfl⟩
        · have hp : 128 ^ (i + 1) = 128 ^ i * 128 := Nat.pow_succ ..
          have h1 : x * (128 ^ i * 128) = 128 * x * 128 ^ i := by rw [Nat.mul_comm (128 ^ i), ← Nat.mul_assoc, Nat.mul_comm x]
          rw [hp, h1, Nat.add_mul, Nat.add_assoc]
theorem dec_canon {l : List Int} {v : Nat} {r : List Int} (hw : Wf l) (h : dec l = some (v, r)) : l = num (v : Int) ++ r := by
  obtain ⟨x, e, hx, _⟩ := decF_canon l 0 0 v r hw h
  have hb := dec_bd h
  have e2 : cl (v : Int) = v := by have := cl_of (n := (v : Int)) (by omega) (by omega); omega
  rw [e, num, e2]
  have : v = x := by simpa using hx
  rw [this]
theorem stNum_canon {s : Option (List Int)} {n : Nat} {r : List Int} (hw : Wf (left s)) (h : stNum s = (n, some r)) : s = some (num (n : Int) ++ r) ∧ Wf r := by
  cases s with
  | none => simp [stNum] at h
  | some l =>
    cases hd : dec l with
    | none => simp [stNum, hd] at h
    | some x =>
      obtain ⟨v, q⟩ := x
      simp only [stNum, hd, Prod.mk.injEq, Option.some.injEq] at h
      obtain ⟨rfl, rfl⟩ := h
      have e := dec_canon (by simpa [left] using hw) hd
      refine ⟨congrArg some e, fun y hy => hw y ?_⟩
      simp only [left, Option.getD_some]
      rw [e]
      exact List.mem_append_right _ hy
theorem stBytes_canon {s : Option (List Int)} {p r : List Int} (hw : Wf (left s)) (h : stBytes s = (p, some r)) : s = some (row p ++ r) ∧ Wf p ∧ Wf r := by
  unfold stBytes at h
  obtain ⟨n, s1, hn⟩ : ∃ n s1, stNum s = (n, s1) := ⟨_, _, rfl⟩
  rw [hn] at h
  cases s1 with
  | none => simp [stRaw] at h
  | some l =>
    obtain ⟨e, hl⟩ := stNum_canon hw hn
    simp only [stRaw] at h
    split at h
    · cases h
    · simp only [Prod.mk.injEq, Option.some.injEq, Int.toNat_natCast] at h
      obtain ⟨rfl, rfl⟩ := h
      refine ⟨?_, Wf.take hl _, Wf.drop hl _⟩
      have hlen : (l.take n).length = n := by rw [List.length_take]; omega
      rw [e, row, hlen, List.append_assoc, List.take_append_drop]
theorem stNums_canon : ∀ (k : Nat) {s : Option (List Int)} {r : List Int}, Wf (left s) → (stNums k s).2 = some r → s = some (nums (stNums k s).1 ++ r)
  | 0, s, r, _, h => by
    have : s = some r := h
    rw [this]
    simp [stNums, nums_nil]
  | k + 1, s, r, hw, h => by
    obtain ⟨n, s1, hn⟩ : ∃ n s1, stNum s = (n, s1) := ⟨_, _, rfl⟩
    have e1 : (stNums (k + 1) s).1 = (n : Int) :: (stNums k s1).1 := by simp only [stNums, hn]
    have e2 : (stNums (k + 1) s).2 = (stNums k s1).2 := by simp only [stNums, hn]
    rw [e2] at h
    rw [e1, nums_cons]
    cases s1 with
    | none => rw [stNums_none] at h; cases h
    | some l =>
      obtain ⟨e, hl⟩ := stNum_canon hw hn
      have ih := stNums_canon k (s := some l) (by simpa [left] using hl) h
      rw [e, List.append_assoc]
      simp only [Option.some.injEq] at ih
      rw [← ih]
/-- an op's bytes -/
theorem op_canon {xs : List Int} {n0 n1 n2 : Nat} {s1 s2 s3 s4 : Option (List Int)} {p t : List Int} (hw : Wf xs) (h0 : stNum (some xs) = (n0, s1)) (h1 : stNum s1 = (n1, s2)) (h2 : stNum s2 = (n2, s3)) (h3 : stBytes s3 = (p, s4)) (h4 : stBytes s4 = (t, some [])) :
    opBytes n0 n1 n2 (strOfNums p) t = xs := by
  have hn : ∀ {k : Nat} {q : Option (List Int)}, stNum none = (k, q) → q = none := fun h => by simp [stNum] at h; exact h.2.symm
  have hbn : ∀ {k : List Int} {q : Option (List Int)}, stBytes none = (k, q) → q = none := fun h => by simp [stBytes, stNum, stRaw] at h; exact h.2.symm
  cases s4 with
  | none => cases hbn h4
  | some l4 =>
    cases s3 with
    | none => cases hbn h3
    | some l3 =>
      cases s2 with
      | none => cases hn h2
      | some l2 =>
        cases s1 with
        | none => cases hn h1
        | some l1 =>
          obtain ⟨e0, w0⟩ := stNum_canon (s := some xs) (by simpa [left] using hw) h0
          obtain ⟨e1, w1⟩ := stNum_canon (s := some l1) (by simpa [left] using w0) h1
          obtain ⟨e2, w2⟩ := stNum_canon (s := some l2) (by simpa [left] using w1) h2
          obtain ⟨e3, wp, w3⟩ := stBytes_canon (s := some l3) (by simpa [left] using w2) h3
          obtain ⟨e4, _, _⟩ := stBytes_canon (s := some l4) (by simpa [left] using w3) h4
          simp only [Option.some.injEq] at e0 e1 e2 e3 e4
          rw [opBytes_eq, kb_str wp, e0, e1, e2, e3, e4]
/-- a reply's bytes -/
theorem rep_canon {xs : List Int} {er : Int} {l : List Int} (hw : Wf xs) (h : dRep xs = (er, l, 0)) : repBytes er l = xs ∧ l.length ≤ 8 := by
  obtain ⟨n0, s1, h0⟩ : ∃ n s1, stNum (some xs) = (n, s1) := ⟨_, _, rfl⟩
  obtain ⟨n1, s2, h1⟩ : ∃ n s2, stNum s1 = (n, s2) := ⟨_, _, rfl⟩
  simp only [dRep, h0, h1] at h
  split at h
  · rename_i hc
    obtain ⟨ha, hb, hc⟩ := hc
    simp only [Prod.mk.injEq, and_true] at h
    obtain ⟨rfl, rfl⟩ := h
    cases s2 with
    | none => rw [stNums_none] at hc; cases hc
    | some l2 =>
      cases s1 with
      | none => simp [stNum] at h1
      | some l1 =>
        obtain ⟨e0, w0⟩ := stNum_canon (s := some xs) (by simpa [left] using hw) h0
        obtain ⟨e1, w1⟩ := stNum_canon (s := some l1) (by simpa [left] using w0) h1
        have e2 := stNums_canon n1 (s := some l2) (by simpa [left] using w1) hc
        have hl := reader.stNums_len n1 (some l2)
        simp only [Option.some.injEq, List.append_nil] at e0 e1 e2
        refine ⟨?_, by omega⟩
        rw [repBytes, hl, Nat.min_eq_left hb, List.take_of_length_le (by omega), e0, e1, ← e2]
        simp [nums_cons, nums_nil]
  · simp at h
theorem mStep_canon {s : Option (List Int)} {m : ByteArray × Int} {r : List Int} (hw : Wf (left s)) (h : mStep s = (m, some r)) : s = some (mRow m ++ r) ∧ Wf r ∧ m.1.size ≤ 64 := by
  obtain ⟨p, s1, hp⟩ : ∃ p s1, stBytes s = (p, s1) := ⟨_, _, rfl⟩
  obtain ⟨y, s2, hy⟩ : ∃ y s2, stNum s1 = (y, s2) := ⟨_, _, rfl⟩
  simp only [mStep, hp, hy, Prod.mk.injEq] at h
  obtain ⟨rfl, h⟩ := h
  split at h
  · rename_i hok
    subst h
    cases s1 with
    | none => simp [stNum] at hy
    | some l1 =>
      obtain ⟨e, wp, wl⟩ := stBytes_canon hw hp
      obtain ⟨e1, wr⟩ := stNum_canon (s := some l1) (by simpa [left] using wl) hy
      simp only [Option.some.injEq] at e1
      refine ⟨?_, wr, by rw [str_size]; omega⟩
      rw [e, e1, mRow, kb_str wp, List.append_assoc]
  · cases h
theorem mIter_canon : ∀ (k : Nat) {s : Option (List Int)} {r : List Int}, Wf (left s) → (mIter k s).2 = some r → s = some (mRows (mIter k s).1 ++ r) ∧ Wf r ∧ ∀ x ∈ (mIter k s).1, x.1.size ≤ 64
  | 0, s, r, hw, h => by
    have : s = some r := h
    subst this
    exact ⟨by simp [mIter, mRows], by simpa [left] using hw, by simp [mIter]⟩
  | k + 1, s, r, hw, h => by
    have h' : (mStep (mIter k s).2).2 = some r := h
    cases e : (mIter k s).2 with
    | none => rw [e] at h'; simp [mStep_none] at h'
    | some q =>
      obtain ⟨ih, wq, hs⟩ := mIter_canon k hw e
      rw [e] at h'
      obtain ⟨m, hm⟩ : ∃ m, (mStep (some q)).1 = m := ⟨_, rfl⟩
      obtain ⟨e1, wr, h64⟩ := mStep_canon (s := some q) (m := m) (r := r) (by simpa [left] using wq) (by rw [← hm, ← h'])
      have ex : (mIter (k + 1) s).1 = (mIter k s).1 ++ [m] := by rw [mIter, e, hm]
      rw [ex]
      refine ⟨?_, wr, ?_⟩
      · simp only [Option.some.injEq] at e1
        conv => lhs; rw [ih, e1]
        simp [mRows]
      · intro x hx
        rcases List.mem_append.1 hx with hx | hx
        · exact hs x hx
        · simp only [List.mem_singleton] at hx
          rw [hx]; exact h64
/-- places' bytes -/
theorem ms_canon {xs : List Int} {ms : List (ByteArray × Int)} (hw : Wf xs) (h : dMs xs = (ms, 0)) : mBytes ms = xs ∧ mSize ms ≤ 69 * ms.length := by
  obtain ⟨N, s1, h0⟩ : ∃ n s1, stNum (some xs) = (n, s1) := ⟨_, _, rfl⟩
  rw [dMs_eq h0] at h
  split at h
  · rename_i hc
    simp only [Prod.mk.injEq, and_true] at h
    subst h
    cases s1 with
    | none =>
      have := mIter_stay (s := none) (k := 0) (j := N) rfl (Nat.zero_le _)
      rw [this] at hc
      cases hc
    | some l1 =>
      obtain ⟨e0, w0⟩ := stNum_canon (s := some xs) (by simpa [left] using hw) h0
      obtain ⟨e1, _, h64⟩ := mIter_canon N (s := some l1) (by simpa [left] using w0) hc
      simp only [Option.some.injEq, List.append_nil] at e0 e1
      refine ⟨by rw [mBytes, mIter_len, ← e1, ← e0], ?_⟩
      have sz : ∀ (l : List (ByteArray × Int)), (∀ x ∈ l, x.1.size ≤ 64) → mSize l ≤ 69 * l.length := by
        intro l
        induction l with
        | nil => intro _; simp [mSize]
        | cons m l ih =>
          intro h
          have h1 := h m (by simp)
          have h2 := ih (fun x hx => h x (by simp [hx]))
          simp only [mSize, List.map_cons, List.sum_cons, List.length_cons] at h2 ⊢
          omega
      exact sz _ h64
  · simp at h
theorem dMs_len {xs : List Int} {ms : List (ByteArray × Int)} {z : Int} (h : dMs xs = (ms, z)) : ms.length ≤ xs.length := by
  obtain ⟨N, s1, h0⟩ : ∃ n s1, stNum (some xs) = (n, s1) := ⟨_, _, rfl⟩
  rw [dMs_eq h0] at h
  split at h
  · rename_i hc
    simp only [Prod.mk.injEq] at h
    rw [← h.1, mIter_len]
    have h1 := mIter_count hc
    have h2 := reader.left_le (s := some xs) (m := xs.length) (by simp [left])
    rw [h0] at h2
    simp only [List.length_nil] at h1
    simp only at h2
    omega
  · simp only [Prod.mk.injEq] at h
    rw [← h.1]
    simp
end Go.Proofs.YtdiljpdohmeceaaGreat.O

/- haystackref13.Decode. -/
namespace Go.Proofs.YtdiljpdohmeceaaGreat.ref13
open Go.RowKit H O opk haystacklaw13 refr

/-- How Decode stands: the result's block, the Reader. -/
structure FR (w wr : World) (s : Option (List Int)) : Prop where
  kp : Kp [] w wr
  res : OpAt wr w.heap.size 0 0 0 ⟨#[]⟩ none 0 0
  rdr : ∃ g, Rdr wr (w.heap.size + 1) g s ∧ ∀ y, g = some y → y < w.heap.size
theorem FR.lt {w wr : World} {s : Option (List Int)} (h : FR w wr s) : w.heap.size + 1 < wr.heap.size := by
  obtain ⟨g, hr, _⟩ := h.rdr
  exact hr.lt
theorem FR.skip {w wr w1 : World} {s : Option (List Int)} (h : FR w wr s) (kk : Kp [] wr w1) : FR w w1 s := by
  obtain ⟨g, hr, hg⟩ := h.rdr
  exact ⟨h.kp.trans kk (by simp), h.res.kp kk (by simp), ⟨g, hr.kp kk (by simp) (by simp), hg⟩⟩
theorem FR.far {w wr w1 : World} {s : Option (List Int)} {X : Nat} (h : FR w wr s) (hX : w.heap.size + 2 ≤ X) (kk : Kp [X] wr w1) : FR w w1 s := by
  obtain ⟨g, hr, hg⟩ := h.rdr
  exact ⟨h.kp.trans kk (by intro x hx; simp at hx; omega), h.res.kp kk (by simp; omega), ⟨g, hr.kp kk (by simp; omega) (fun y hy => by have := hg y hy; simp; omega), hg⟩⟩
theorem FR.took {w wr w1 : World} {s s' : Option (List Int)} {g g' : Option Nat} (h : FR w wr s) (hg : ∀ y, g = some y → y < w.heap.size) (R : Rdr w1 (w.heap.size + 1) g' s') (G : g' = g ∨ g' = none) (kk : Kp [w.heap.size + 1] wr w1) : FR w w1 s' :=
  ⟨h.kp.trans kk (by intro x hx; simp at hx; omega), h.res.kp kk (by simp), ⟨g', R, fun y hy => by rcases G with e | e; exact hg y (by rw [← e]; exact hy); rw [e] at hy; cases hy⟩⟩
theorem FR.num {w wr : World} {s s4 : Option (List Int)} {y : Nat} (h : FR w wr s) (hl : (left s).length ≤ 140737488351232) (hs : stNum s = (y, s4)) :
    Calls Tryz.prog 35 #[.pointer (some ⟨w.heap.size + 1, 0, none⟩)] wr fun e w5 => e = .returned (.int .i64 (y : Int)) ∧ FR w w5 s4 ∧ Kp [w.heap.size + 1] wr w5 := by
  obtain ⟨g, R, hg⟩ := h.rdr
  refine (num_any _ g s wr R hl).mono ?_
  rw [hs]
  rintro e w5 ⟨rfl, g5, R5, G5, K5⟩
  exact ⟨rfl, h.took hg R5 G5 K5, K5⟩
theorem FR.bytes {w wr : World} {s s4 : Option (List Int)} {p : List Int} {n : Nat} (h : FR w wr s) (hl : (left s).length ≤ 140737488351232) (hs : stBytes s = (p, s4)) (hn : p.length = n) :
    Calls Tryz.prog 36 #[.pointer (some ⟨w.heap.size + 1, 0, none⟩)] wr fun e w5 => ∃ A5 c5, e = .returned (.slice A5 n c5) ∧ FR w w5 s4 ∧ (∀ w6, Kp [w.heap.size + 1] w5 w6 → Rd w6 A5 (iv .u8 p)) ∧ n ≤ c5 ∧ (A5 = none → c5 = 0) ∧ (∀ a, A5 = some a → wr.heap.size ≤ a.block ∧ a.block < w5.heap.size) ∧ Kp [w.heap.size + 1] wr w5 := by
  obtain ⟨g, R, hg⟩ := h.rdr
  have hlt := h.lt
  refine (bytes_any _ g s wr R hl).mono ?_
  rw [hs]
  rintro e w5 ⟨v5, rfl, O, g5, R5, G5, K5⟩
  have O' := O
  obtain ⟨A5, c5, rfl, h1, _, r5, n5⟩ := own_rd O.1
  have hb : ∀ a, A5 = some a → wr.heap.size ≤ a.block ∧ a.block < w5.heap.size := fun a ha => ⟨O'.2 a.block (by rw [ha]; rfl), own_lt O'.1 a.block (by rw [ha]; rfl)⟩
  rw [hn] at h1 ⊢
  refine ⟨A5, c5, rfl, h.took hg R5 G5 K5, fun w6 k6 => k6.rd r5 ?_, h1, n5, hb, K5⟩
  intro a ha hm
  have h1 := hb a ha
  simp at hm
  omega
theorem FR.whole {w wr : World} {s : Option (List Int)} (h : FR w wr s) :
    Calls Tryz.prog 37 #[.pointer (some ⟨w.heap.size + 1, 0, none⟩)] wr fun e w5 => e = .returned (.bool (refr.whole s)) ∧ w5 = wr := by
  obtain ⟨g, R, hg⟩ := h.rdr
  exact whole_any _ g s wr R
theorem FR.box {w : World} {A : Option Addr} {n c : Nat} {xs : List Int} (hn : xs.length = n) (hr : Rd w A (iv .u8 xs)) (hc : n ≤ c) (hc9 : c ≤ 9223372036854775807) (hnil : A = none → c = 0) (hA : ∀ a, A = some a → a.block < w.heap.size) (hw : Wf xs) :
    FR w ((w.alloc (.cells #[.int .i64 0, .int .i64 0, .int .i64 0, .string ⟨#[]⟩, .slice none 0 0] 46)).alloc (.cells #[.slice A n c, .bool false] 106)) (some xs) := by
  subst hn
  have k1 := (Kp.refl [] w).alloc (.cells #[.int .i64 0, .int .i64 0, .int .i64 0, .string ⟨#[]⟩, .slice none 0 0] 46)
  have hg : ∀ y, A.map Addr.block = some y → y < w.heap.size := by
    intro y hy
    cases A with
    | none => simp at hy
    | some a => simp at hy; rw [← hy]; exact hA a rfl
  have hb := heap_alloc_new (w.alloc (.cells #[.int .i64 0, .int .i64 0, .int .i64 0, .string ⟨#[]⟩, .slice none 0 0] 46)) (.cells #[.slice A xs.length c, .bool false] 106)
  rw [World.size_alloc] at hb
  refine ⟨k1.alloc _, blk_alloc (heap_alloc_new w _) _, A.map Addr.block, ⟨A, c, hb, rfl, (k1.alloc _).rd_new hr (by simp), hc, hc9, hnil, ?_, hw⟩, hg⟩
  intro e
  have := hg _ e
  omega
/-- the first number -/
theorem FR.first {w wX : World} {A : Option Addr} {n c N : Nat} {xs : List Int} {s1 : Option (List Int)} (hn : xs.length = n) (hr : Rd w A (iv .u8 xs)) (hc : n ≤ c) (hc9 : c ≤ 9223372036854775807) (hnil : A = none → c = 0) (hA : (∀ a, A = some a → a.block < w.heap.size) ∨ n = 0) (hw : Wf xs) (hl : (left (some xs)).length ≤ 140737488351232) (h0 : stNum (some xs) = (N, s1))
    (hX : Kp [] ((w.alloc (.cells #[.int .i64 0, .int .i64 0, .int .i64 0, .string ⟨#[]⟩, .slice none 0 0] 46)).alloc (.cells #[.slice A n c, .bool false] 106)) wX) :
    Calls Tryz.prog 35 #[.pointer (some ⟨w.heap.size + 1, 0, none⟩)] wX fun e w5 => e = .returned (.int .i64 (N : Int)) ∧ FR w w5 s1 ∧ Kp [w.heap.size + 1] wX w5 := by
  rcases hA with hA | rfl
  · exact ((FR.box hn hr hc hc9 hnil hA hw).skip hX).num hl h0
  · obtain rfl : xs = [] := List.eq_nil_of_length_eq_zero hn
    have e0 : stNum (some []) = (0, none) := rfl
    rw [e0] at h0
    cases h0
    have k1 := (Kp.refl [] w).alloc (.cells #[.int .i64 0, .int .i64 0, .int .i64 0, .string ⟨#[]⟩, .slice none 0 0] 46)
    have hb := heap_alloc_new (w.alloc (.cells #[.int .i64 0, .int .i64 0, .int .i64 0, .string ⟨#[]⟩, .slice none 0 0] 46)) (.cells #[.slice A 0 c, .bool false] 106)
    rw [World.size_alloc] at hb
    have hres : OpAt ((w.alloc (.cells #[.int .i64 0, .int .i64 0, .int .i64 0, .string ⟨#[]⟩, .slice none 0 0] 46)).alloc (.cells #[.slice A 0 c, .bool false] 106)) w.heap.size 0 0 0 ⟨#[]⟩ none 0 0 := blk_alloc (heap_alloc_new w _) _
    refine (num_empty (A := A) (c := c) (b := w.heap.size + 1) (hX.blk hb (by simp))).mono ?_
    rintro e w5 ⟨rfl, R5, K5⟩
    exact ⟨rfl, ⟨((k1.alloc _).trans hX (by simp)).trans K5 (by intro x hx; simp at hx; omega), (hres.kp hX (by simp)).kp K5 (by simp), ⟨none, R5, by simp⟩⟩, K5⟩
/-- An op's block, new, empty. -/
structure OpZ (w wr : World) (X : Nat) : Prop where
  op : OpAt wr X 0 0 0 ⟨#[]⟩ none 0 0
  lo : w.heap.size + 2 ≤ X
theorem OpZ.new {w wr : World} {s : Option (List Int)} (h : FR w wr s) : OpZ w (wr.alloc (.cells #[.int .i64 0, .int .i64 0, .int .i64 0, .string ⟨#[]⟩, .slice none 0 0] 46)) wr.heap.size := ⟨OpAt.new _ _ _ _ _ _ _ _, h.lt⟩
theorem OpZ.first {w w0 : World} (h : w0.heap.size = w.heap.size + 2) : OpZ w (w0.drew.alloc (.cells #[.int .i64 0, .int .i64 0, .int .i64 0, .string ⟨#[]⟩, .slice none 0 0] 46)) w0.heap.size := ⟨OpAt.new w0.drew _ _ _ _ _ _ _, by omega⟩
theorem OpZ.kp {w wr w1 : World} {X : Nat} (h : OpZ w wr X) (kk : Kp [w.heap.size + 1] wr w1) : OpZ w w1 X := ⟨h.op.kp kk (by have := h.lo; simp; omega), h.lo⟩
theorem OpZ.before {w wr : World} {X m : Nat} {A : Option Addr} (h : OpZ w wr X) (ht : ∀ a, A = some a → wr.heap.size ≤ a.block ∧ a.block < m) : ∀ a, A = some a → X < a.block := fun a ha => by
  have h1 := lt_of_block h.op
  have h2 := ht a ha
  omega
/-- Behind the fields. -/
structure FQ (w wx : World) (X : Nat) (n0 n1 n2 : Int) (key : ByteArray) (A : Option Addr) (n c : Nat) (t : List Int) (s : Option (List Int)) : Prop where
  fr : FR w wx s
  op : OpAt wx X n0 n1 n2 key A n c
  rd : Rd wx A (iv .u8 t)
  le : n ≤ c
  nil : A = none → c = 0
  off : ∀ a, A = some a → w.heap.size < a.block
theorem FR.made {w w5 : World} {s : Option (List Int)} {X n c : Nat} {A : Option Addr} {t : List Int} (h : FR w w5 s) (hz : OpZ w w5 X) (ht : ∀ w6, Kp [w.heap.size + 1] w5 w6 → Rd w6 A (iv .u8 t)) (hc : n ≤ c) (hnil : A = none → c = 0) (hX : ∀ a, A = some a → X < a.block) (n0 n1 n2 : Int) (key : ByteArray) :
    FQ w (((((w5.setCell ⟨X, 0, none⟩ (.int .i64 n0)).setCell ⟨X, 1, none⟩ (.int .i64 n1)).setCell ⟨X, 2, none⟩ (.int .i64 n2)).setCell ⟨X, 3, none⟩ (.string key)).setCell ⟨X, 4, none⟩ (.slice A n c)) X n0 n1 n2 key A n c t s := by
  have e := ((((hz.op.set.1 n0).set.2.1 n1).set.2.2.1 n2).set.2.2.2.1 key).set.2.2.2.2 A n c
  have kk : Kp [X] w5 (((((w5.setCell ⟨X, 0, none⟩ (.int .i64 n0)).setCell ⟨X, 1, none⟩ (.int .i64 n1)).setCell ⟨X, 2, none⟩ (.int .i64 n2)).setCell ⟨X, 3, none⟩ (.string key)).setCell ⟨X, 4, none⟩ (.slice A n c)) :=
    (((((Kp.refl _ w5).setCell (.inl (by simp)) _).setCell (.inl (by simp)) _).setCell (.inl (by simp)) _).setCell (.inl (by simp)) _).setCell (.inl (by simp)) _
  have hlo := hz.lo
  exact ⟨h.far hlo kk, e, kk.rd (ht w5 (Kp.refl _ _)) (fun a ha hm => by have := hX a ha; simp at hm; omega), hc, hnil, fun a ha => by have := hX a ha; omega⟩
theorem FR.laid {w w5 wX : World} {s s9 : Option (List Int)} {n c m : Nat} {A : Option Addr} {t : List Int} (h : FR w w5 s) (h9 : FR w wX s9) (ht : ∀ w6, Kp [w.heap.size + 1] w5 w6 → Rd w6 A (iv .u8 t)) (hc : n ≤ c) (hnil : A = none → c = 0) (hX : ∀ a, A = some a → wX.heap.size ≤ a.block ∧ a.block < m) (n0 n1 n2 : Int) (key : ByteArray) :
    FQ w (w5.alloc (.cells #[.int .i64 n0, .int .i64 n1, .int .i64 n2, .string key, .slice A n c] 46)) w5.heap.size n0 n1 n2 key A n c t s :=
  ⟨h.skip ((Kp.refl [] _).alloc _), OpAt.new _ _ _ _ _ _ _ _, ((Kp.refl [] _).alloc _).rd_new (ht w5 (Kp.refl _ _)) (by simp), hc, hnil, fun a ha => by have h1 := hX a ha; have h2 := h9.lt; omega⟩

set_option maxHeartbeats 16000000 in
set_option maxRecDepth 100000 in
theorem decode_any (A : Option Addr) (n c : Nat) (xs : List Int) (w : World) (hn : xs.length = n) (hr : Rd w A (iv .u8 xs)) (hc : n ≤ c) (hc9 : c ≤ 9223372036854775807) (hnil : A = none → c = 0) (hA : (∀ a, A = some a → a.block < w.heap.size) ∨ n = 0) (hw : Wf xs) (hm : n ≤ 1000000) :
    Calls Tryz.prog 13 #[.slice A n c] w (ODec xs w) := by
  obtain ⟨n0, s1, h0⟩ : ∃ a b, stNum (some xs) = (a, b) := ⟨_, _, rfl⟩
  obtain ⟨n1, s2, h1⟩ : ∃ a b, stNum s1 = (a, b) := ⟨_, _, rfl⟩
  obtain ⟨n2, s3, h2⟩ : ∃ a b, stNum s2 = (a, b) := ⟨_, _, rfl⟩
  obtain ⟨p, s4, h3⟩ : ∃ a b, stBytes s3 = (a, b) := ⟨_, _, rfl⟩
  obtain ⟨t, s5, h4⟩ : ∃ a b, stBytes s4 = (a, b) := ⟨_, _, rfl⟩
  obtain ⟨np, hnp⟩ : ∃ k, p.length = k := ⟨_, rfl⟩
  obtain ⟨nt, hnt⟩ : ∃ k, t.length = k := ⟨_, rfl⟩
  have hl0 : (left (some xs)).length ≤ 1000000 := by simp [left]; omega
  have hl1 : (left s1).length ≤ 1000000 := by have q := refr.left_le hl0; rwa [h0] at q
  have hl2 : (left s2).length ≤ 1000000 := by have q := refr.left_le hl1; rwa [h1] at q
  have hl3 : (left s3).length ≤ 1000000 := by have q := refr.left_le hl2; rwa [h2] at q
  have hl4 : (left s4).length ≤ 1000000 := by have q := stBytes_left (s := s3) hl3; rwa [h3] at q
  have hnt9 : nt ≤ 1000000 := by have q := stBytes_len (s := s4) hl4; rw [h4] at q; simp only at q; omega
  have HE : As (dOpR xs = if s5 = some [] ∧ opErr n0 n1 n2 np nt = 0 then ((n0 : Int), (n1 : Int), (n2 : Int), strOfNums p, t, 0) else (0, 0, 0, ⟨#[]⟩, [], 3)) := ⟨by
    rw [dOpR_eq h0 h1 h2 h3 h4, hnp, hnt]
    by_cases hs : s5 = some []
    · subst hs
      have hcan := op_canon hw h0 h1 h2 h3 h4
      by_cases he : opErr n0 n1 n2 np nt = 0
      · rw [if_pos ⟨rfl, he, hcan⟩, if_pos ⟨rfl, he⟩]
      · rw [if_neg (fun h => he h.2.1), if_neg (fun h => he h.2)]
    · rw [if_neg (fun h => hs h.1), if_neg (fun h => hs h.1)]⟩
  have HN1 := As.mk (fun wX => FR.first (wX := wX) hn hr hc hc9 hnil hA hw (by omega) h0)
  have HN2 : As (∀ wX, FR w wX s1 → Calls Tryz.prog 35 #[.pointer (some ⟨w.heap.size + 1, 0, none⟩)] wX fun e w5 => e = .returned (.int .i64 (n1 : Int)) ∧ FR w w5 s2 ∧ Kp [w.heap.size + 1] wX w5) := ⟨fun wX h => h.num (by omega) h1⟩
  have HN3 : As (∀ wX, FR w wX s2 → Calls Tryz.prog 35 #[.pointer (some ⟨w.heap.size + 1, 0, none⟩)] wX fun e w5 => e = .returned (.int .i64 (n2 : Int)) ∧ FR w w5 s3 ∧ Kp [w.heap.size + 1] wX w5) := ⟨fun wX h => h.num (by omega) h2⟩
  have HB1 : As (∀ wX, FR w wX s3 → Calls Tryz.prog 36 #[.pointer (some ⟨w.heap.size + 1, 0, none⟩)] wX fun e w5 => ∃ A5 c5, e = .returned (.slice A5 np c5) ∧ FR w w5 s4 ∧ (∀ w6, Kp [w.heap.size + 1] w5 w6 → Rd w6 A5 (iv .u8 p)) ∧ np ≤ c5 ∧ (A5 = none → c5 = 0) ∧ (∀ a, A5 = some a → wX.heap.size ≤ a.block ∧ a.block < w5.heap.size) ∧ Kp [w.heap.size + 1] wX w5) := ⟨fun wX h => h.bytes (by omega) h3 hnp⟩
  have HB2 : As (∀ wX, FR w wX s4 → Calls Tryz.prog 36 #[.pointer (some ⟨w.heap.size + 1, 0, none⟩)] wX fun e w5 => ∃ A5 c5, e = .returned (.slice A5 nt c5) ∧ FR w w5 s5 ∧ (∀ w6, Kp [w.heap.size + 1] w5 w6 → Rd w6 A5 (iv .u8 t)) ∧ nt ≤ c5 ∧ (A5 = none → c5 = 0) ∧ (∀ a, A5 = some a → wX.heap.size ≤ a.block ∧ a.block < w5.heap.size) ∧ Kp [w.heap.size + 1] wX w5) := ⟨fun wX h => h.bytes (by omega) h4 hnt⟩
  have HNP := As.mk hnp
  have HNT := As.mk hnt
  clear h0 h1 h2 h3 h4 hl0 hl1 hl2 hl3 hl4 hn hr hc hc9 hnil hA hw hnp hnt
  go_enter Tryz.func13, Tryz.ntmps13
  go_upto_region 2 with fail
  have HSZ : As (((w.alloc (.cells #[.int .i64 0, .int .i64 0, .int .i64 0, .string ⟨#[]⟩, .slice none 0 0] 46)).alloc (.cells #[.slice A n c, .bool false] 106)).heap.size = w.heap.size + 2) := ⟨by simp⟩
  obtain ⟨w0, hw0⟩ : ∃ w0, w0 = (w.alloc (.cells #[.int .i64 0, .int .i64 0, .int .i64 0, .string ⟨#[]⟩, .slice none 0 0] 46)).alloc (.cells #[.slice A n c, .bool false] 106) := ⟨_, rfl⟩
  rw [← hw0] at HN1 HSZ ⊢
  clear hw0
  go_cut [5] from 11 to 35 (fun v wx => ∃ (X ct : Nat) (At : Option Addr), v = .pointer (some ⟨X, 0, none⟩) ∧ As (FQ w wx X n0 n1 n2 (strOfNums p) At nt ct t s5))
  case first =>
    go_region_law (first
      | (go_simp; go_at_call 35; (first | (refine (HN1.out _ (Kp.refl [] _).drew).mono ?_; rintro e w1 HP; obtain ⟨rfl, h1, k1⟩ := HP) | (refine (HN1.out _ ((Kp.refl [] _).drew.alloc _)).mono ?_; rintro e w1 HP; obtain ⟨rfl, h1, k1⟩ := HP; have HZ1 : As (OpZ w w1 w0.heap.size) := ⟨(OpZ.first HSZ.out).kp k1⟩)); have HF1 := As.mk h1; clear h1 k1 HN1)
      | (go_simp; go_at_call 35; (first | (refine (HN2.out _ HF1.out).mono ?_; rintro e w2 HP; obtain ⟨rfl, h2, k2⟩ := HP; (first | (have HZ2 := As.mk (HZ1.out.kp k2); clear HZ1) | skip)) | (refine (HN2.out _ (HF1.out.skip ((Kp.refl [] _).alloc _))).mono ?_; rintro e w2 HP; obtain ⟨rfl, h2, k2⟩ := HP; have HZ2 := As.mk ((OpZ.new HF1.out).kp k2))); have HF2 := As.mk h2; clear h2 k2 HN2)
      | (go_simp; go_at_call 35; (first | (refine (HN3.out _ HF2.out).mono ?_; rintro e w3 HP; obtain ⟨rfl, h3, k3⟩ := HP; (first | (have HZ3 := As.mk (HZ2.out.kp k3); clear HZ2) | skip)) | (refine (HN3.out _ (HF2.out.skip ((Kp.refl [] _).alloc _))).mono ?_; rintro e w3 HP; obtain ⟨rfl, h3, k3⟩ := HP; have HZ3 := As.mk ((OpZ.new HF2.out).kp k3))); have HF3 := As.mk h3; clear h3 k3 HN3)
      | (go_simp; go_at_call 36; (first | (refine (HB1.out _ HF3.out).mono ?_; rintro e w4 HP; obtain ⟨A4, c4, rfl, h4, r4, _, _, _, k4⟩ := HP; (first | (have HZ4 := As.mk (HZ3.out.kp k4); clear HZ3) | skip)) | (refine (HB1.out _ (HF3.out.skip ((Kp.refl [] _).alloc _))).mono ?_; rintro e w4 HP; obtain ⟨A4, c4, rfl, h4, r4, _, _, _, k4⟩ := HP; have HZ4 := As.mk ((OpZ.new HF3.out).kp k4))); have HF4 := As.mk h4; have HR4 := As.mk r4; have hcv4 := conv_str (c := c4) HNP.out (r4 w4 (Kp.refl _ _)); have hcva4 := fun o => conv_str (c := c4) HNP.out (r4 (w4.alloc o) ((Kp.refl _ _).alloc _)); clear h4 k4 r4 HB1)
      | (go_simp; go_at_call 36; (first | (refine (HB2.out _ HF4.out).mono ?_; rintro e w5 HP; obtain ⟨A5, c5, rfl, h5, r5, g5, m5, b5, k5⟩ := HP; (first | (have HX5 := As.mk (HZ4.out.before b5); have HZ5 := As.mk (HZ4.out.kp k5); clear HZ4) | skip)) | (refine (HB2.out _ (HF4.out.skip ((Kp.refl [] _).alloc _))).mono ?_; rintro e w5 HP; obtain ⟨A5, c5, rfl, h5, r5, g5, m5, b5, k5⟩ := HP; have HX5 := As.mk ((OpZ.new HF4.out).before b5); have HZ5 := As.mk ((OpZ.new HF4.out).kp k5))); have k45 : Kp [w.heap.size + 1] w4 w5 := (by first | exact k5 | exact ((Kp.refl [w.heap.size + 1] _).alloc _).trans k5 (fun x hx => .inl hx)); have hcv5 := conv_str (c := c4) HNP.out (HR4.out w5 k45); have hcva5 := fun o => conv_str (c := c4) HNP.out (HR4.out (w5.alloc o) (k45.alloc o)); have HF5 := As.mk h5; have HR5 := As.mk r5; have HG5 := As.mk g5; have HM5 := As.mk m5; have HB5 := As.mk b5; (first | (obtain ⟨z0, z1, z2, z3, z4⟩ := HZ5.out.op.cells; have f0 := HZ5.out.op.free 0; have f1 := HZ5.out.op.free 1; have f2 := HZ5.out.op.free 2; have f3 := HZ5.out.op.free 3; have f4 := HZ5.out.op.free 4) | skip); clear h5 k5 k45 r5 g5 m5 b5 HB2))
    all_goals go_wp2_with fail
    all_goals go_meet
    all_goals first
      | exact ⟨_, _, _, rfl, ⟨HF5.out.made HZ5.out HR5.out HG5.out HM5.out HX5.out _ _ _ _⟩⟩
      | exact ⟨_, _, _, rfl, ⟨HF5.out.laid HF4.out HR5.out HG5.out HM5.out HB5.out _ _ _ _⟩⟩
  case rest =>
    obtain ⟨X, ct, At, rfl, HQ⟩ := hcut
    obtain ⟨d0, d1, d2, d3, d4⟩ := HQ.out.op.cells
    obtain ⟨e0, e1, e2, e3, e4⟩ := HQ.out.fr.res.cells
    have f0 := HQ.out.fr.res.free 0
    have f1 := HQ.out.fr.res.free 1
    have f2 := HQ.out.fr.res.free 2
    have f3 := HQ.out.fr.res.free 3
    have f4 := HQ.out.fr.res.free 4
    have HWH := As.mk HQ.out.fr.whole
    by_cases hs5 : s5 = some []
    · have hwh : refr.whole s5 = true := by rw [hs5]; rfl
      rw [hwh] at HWH
      obtain ⟨z, hz⟩ : ∃ z, z = opErr n0 n1 n2 np nt := ⟨_, rfl⟩
      have HEN : As (Calls Tryz.prog 39 #[.agg #[.int .i64 n0, .int .i64 n1, .int .i64 n2, .string (strOfNums p), .slice At nt ct]] wc fun e w' => ∃ v, e = .returned (.tuple #[v, .int .i64 z]) ∧ Kp [] wc w') := ⟨by
        refine (encode_any n0 n1 n2 (strOfNums p) At nt ct t wc HNT.out HQ.out.rd HQ.out.nil (by omega)).mono ?_
        rintro e w' ⟨v, rfl, _, K⟩
        exact ⟨v, by rw [hz, str_size, HNP.out, HNT.out], K⟩⟩
      by_cases hz0 : z = 0
      · have HZ : As (dOpR xs = ((n0 : Int), (n1 : Int), (n2 : Int), strOfNums p, t, 0)) := ⟨by rw [HE.out, if_pos ⟨hs5, by rw [← hz]; exact hz0⟩]⟩
        subst hz0
        clear hz hs5 hwh
        go_wp2_with (first
          | (go_at_call 37; refine HWH.out.mono ?_; rintro e w7 ⟨rfl, rfl⟩; clear HWH)
          | (go_at_call 39; refine HEN.out.mono ?_; rintro e w8 ⟨v8, rfl, k8⟩; have HK8 := As.mk k8; have HQ8 := As.mk (HQ.out.fr.res.kp k8 (by simp)); obtain ⟨d80, d81, d82, d83, d84⟩ := (HQ.out.op.kp k8 (by simp)).cells; obtain ⟨e80, e81, e82, e83, e84⟩ := HQ8.out.cells; have f80 := HQ8.out.free 0; have f81 := HQ8.out.free 1; have f82 := HQ8.out.free 2; have f83 := HQ8.out.free 3; have f84 := HQ8.out.free 4; clear k8 HEN))
        have hz := zero_op (HQ.out.fr.kp.trans HK8.out (by simp)) HQ8.out n0 n1 n2 (strOfNums p) At nt ct
        (try simp only [Exit.inBlock, Exit.then])
        refine bodyPost_ret (res_op rfl rfl hz.1) rfl ?_
        refine ⟨_, _, _, _, _, _, At, nt, ct, HZ.out, rfl, HNT.out, ?_, HQ.out.le, HQ.out.nil, hz.2.1⟩
        exact hz.2.2.rd (HK8.out.rd HQ.out.rd (fun _ _ => by simp)) (fun a ha hm => by have h9 := HQ.out.off a ha; simp at hm; omega)
      · have HZ : As (dOpR xs = (0, 0, 0, ⟨#[]⟩, [], 3)) := ⟨by rw [HE.out, if_neg]; rintro ⟨_, h9⟩; exact hz0 (by rw [hz]; exact h9)⟩
        have hzb : (z != 0) = true := by simpa using hz0
        clear hz hs5 hwh hz0
        go_wp2_with (first
          | (go_at_call 37; refine HWH.out.mono ?_; rintro e w7 ⟨rfl, rfl⟩; clear HWH)
          | (go_at_call 39; refine HEN.out.mono ?_; rintro e w8 ⟨v8, rfl, k8⟩; have HK8 := As.mk k8; have HQ8 := As.mk (HQ.out.fr.res.kp k8 (by simp)); obtain ⟨e80, e81, e82, e83, e84⟩ := HQ8.out.cells; have f80 := HQ8.out.free 0; have f81 := HQ8.out.free 1; have f82 := HQ8.out.free 2; have f83 := HQ8.out.free 3; have f84 := HQ8.out.free 4; clear k8 HEN))
        have hz := zero_op (HQ.out.fr.kp.trans HK8.out (by simp)) HQ8.out 0 0 0 ⟨#[]⟩ none 0 0
        (try simp only [Exit.inBlock, Exit.then])
        refine bodyPost_ret (res_op rfl rfl hz.1) rfl ?_
        exact odec_none HZ.out hz.2.1
    · have hwh : refr.whole s5 = false := by
        rw [Bool.eq_false_iff]
        intro h9
        exact hs5 (by simpa [refr.whole] using h9)
      rw [hwh] at HWH
      have HZ : As (dOpR xs = (0, 0, 0, ⟨#[]⟩, [], 3)) := ⟨by rw [HE.out, if_neg (fun h9 => hs5 h9.1)]⟩
      clear hs5 hwh
      go_wp2_with (go_at_call 37; refine HWH.out.mono ?_; rintro e w7 ⟨rfl, rfl⟩; clear HWH)
      have hz := zero_op HQ.out.fr.kp HQ.out.fr.res 0 0 0 ⟨#[]⟩ none 0 0
      (try simp only [Exit.inBlock, Exit.then])
      refine bodyPost_ret (res_op rfl rfl hz.1) rfl ?_
      exact odec_none HZ.out hz.2.1
end Go.Proofs.YtdiljpdohmeceaaGreat.ref13

/- frame.One, frame.Scan. -/
namespace Go.Proofs.YtdiljpdohmeceaaGreat.O
open Go.RowKit H

def fOne (b : List Int) : List Int × Int := if (fDec b).2.2 = 0 ∧ (fDec b).2.1 ≠ b.length then ([], 3) else ((fDec b).1, (fDec b).2.2)
theorem fDec_pos {b : List Int} (h : (fDec b).2.2 = 0) : 12 ≤ (fDec b).2.1 ∧ (fDec b).2.1 ≤ b.length := by
  unfold fDec at h ⊢
  split at h
  · cases h
  · split at h
    · cases h
    · split at h
      · cases h
      · split at h
        · cases h
        · split at h
          · cases h
          · rename_i h1 h2 h3 h4 h5
            rw [if_neg h1, if_neg h2, if_neg h3, if_neg h4, if_neg h5]
            simp only
            omega
/-- what records hold, one behind the other -/
def fScan (b : List Int) : List (List Int) × Nat :=
  if _h : b ≠ [] ∧ (fDec b).2.2 = 0 then
    ((fDec b).1 :: (fScan (b.drop (fDec b).2.1)).1, (fDec b).2.1 + (fScan (b.drop (fDec b).2.1)).2)
  else ([], 0)
termination_by b.length
decreasing_by
  have := fDec_pos _h.2
  rw [List.length_drop]
  omega
theorem fScan_end {b : List Int} (h : b = [] ∨ (fDec b).2.2 ≠ 0) : fScan b = ([], 0) := by
  rw [fScan, dif_neg]
  rintro ⟨h1, h2⟩
  rcases h with h | h
  · exact h1 h
  · exact h h2
theorem fScan_step {b : List Int} (h : b ≠ []) (h2 : (fDec b).2.2 = 0) : fScan b = ((fDec b).1 :: (fScan (b.drop (fDec b).2.1)).1, (fDec b).2.1 + (fScan (b.drop (fDec b).2.1)).2) := by
  rw [fScan, dif_pos ⟨h, h2⟩]
theorem fDec_nil : (fDec []).2.2 ≠ 0 := by rw [fDec, if_pos (by decide)]; decide
theorem fDec_wf {b : List Int} (h : Wf b) : Wf (fDec b).1 := by
  unfold fDec
  repeat' split
  all_goals first
    | exact Wf.nil
    | exact (h.take _).drop _
end Go.Proofs.YtdiljpdohmeceaaGreat.O
namespace Go.Proofs.YtdiljpdohmeceaaGreat.frame
open Go.RowKit H O joins

/-- behind One -/
def FOne (xs : List Int) (w : World) (e : Ending) (w' : World) : Prop :=
  ∃ v, e = .returned (.tuple #[v, .int .i64 (fOne xs).2]) ∧ Own 5 .u8 w' w.heap.size v (fOne xs).1 ∧ Kp [] w w'

set_option maxHeartbeats 4000000 in
theorem one_any (A : Option Addr) (n c : Nat) (xs : List Int) (w : World) (hn : xs.length = n) (hr : Rd w A (iv .u8 xs)) (hc : n ≤ c) (hw : Wf xs) (hm : n ≤ 140737488351232) :
    Calls Tryz.prog 113 #[.slice A n c] w (FOne xs w) := by
  have HD := dec_any A n c xs w hn hr hc hw hm
  unfold FDec at HD
  obtain ⟨e, he⟩ : ∃ e, (fDec xs).2.2 = e := ⟨_, rfl⟩
  obtain ⟨k, hk⟩ : ∃ k, (fDec xs).2.1 = k := ⟨_, rfl⟩
  rw [he, hk] at HD
  have HD := As.mk HD
  by_cases h0 : e = 0
  · subst h0
    by_cases h1 : k = n
    · subst h1
      have HE : As (fOne xs = ((fDec xs).1, 0)) := ⟨by rw [fOne, if_neg (by rw [hk]; omega), he]⟩
      clear hr hw hn he hk
      go_enter Tryz.func113, Tryz.ntmps113
      go_wp2_with (go_at_call 128; refine HD.out.mono ?_; rintro e w1 ⟨v, rfl, o1, k1⟩; have HO := As.mk o1; have HK := As.mk k1; clear o1 k1)
      go_ret2
      refine ⟨v, by rw [HE.out]; rfl, ?_, HK.out⟩
      rw [HE.out]
      exact HO.out
    · have HE : As (fOne xs = ([], 3)) := ⟨by rw [fOne, if_pos ⟨he, by rw [hk]; omega⟩]⟩
      have hkn : ((k : Int) != (n : Int)) = true := by simp; omega
      clear hr hw hn he hk
      go_enter Tryz.func113, Tryz.ntmps113
      go_wp2_with (go_at_call 128; refine HD.out.mono ?_; rintro e w1 ⟨v, rfl, o1, k1⟩; have HK := As.mk k1; clear o1 k1)
      go_ret2
      refine ⟨_, by rw [HE.out]; rfl, ?_, HK.out⟩
      rw [HE.out]
      exact Own.nil _ _ _ _
  · have HE : As (fOne xs = ((fDec xs).1, e)) := ⟨by rw [fOne, if_neg (by rw [he]; omega), he]⟩
    have h0b : (e == 0) = false := by simpa using h0
    clear hr hw hn he hk
    go_enter Tryz.func113, Tryz.ntmps113
    go_wp2_with (go_at_call 128; refine HD.out.mono ?_; rintro e w1 ⟨v, rfl, o1, k1⟩; have HO := As.mk o1; have HK := As.mk k1; clear o1 k1)
    go_ret2
    refine ⟨v, by rw [HE.out]; rfl, ?_, HK.out⟩
    rw [HE.out]
    exact HO.out
end Go.Proofs.YtdiljpdohmeceaaGreat.frame

/- frame.Scan. -/
namespace Go.Proofs.YtdiljpdohmeceaaGreat.H
open Go.RowKit

theorem RdS.move {S S' : List Nat} {w w' : World} {A : Option Addr} {vs : List Value} (h : RdS S w A vs) (k : Kp S w w') (hS : ∀ x ∈ S', x ∈ S ∨ w.heap.size ≤ x) : RdS S' w' A vs := by
  intro j v hv
  obtain ⟨a, rfl, h1, h2⟩ := h j v hv
  have hl := World.block_lt_of_cell? w _ h2
  rw [add_block] at hl
  refine ⟨a, rfl, fun hm => ?_, k.cell h2 (by rw [add_block]; exact h1)⟩
  rcases hS _ hm with h | h
  · exact h1 h
  · omega
/-- Slices that hold these rows, none of it in the blocks S. -/
def ValsS (S : List Nat) (w : World) (vs : List Value) (l : List (List Int)) : Prop :=
  vs.length = l.length ∧ ∀ j (h : j < l.length), ∃ Aj cj, vs[j]? = some (.slice Aj l[j].length cj) ∧ l[j].length ≤ cj ∧ (Aj = none → cj = 0) ∧ RdS S w Aj (iv .u8 l[j])
theorem ValsS.vals {S : List Nat} {w : World} {vs : List Value} {l : List (List Int)} (h : ValsS S w vs l) : Vals w vs l :=
  ⟨h.1, fun j hj => by obtain ⟨Aj, cj, h1, h2, h3, h4⟩ := h.2 j hj; exact ⟨Aj, cj, h1, h2, h3, h4.rd⟩⟩
theorem ValsS.move {S S' : List Nat} {w w' : World} {vs : List Value} {l : List (List Int)} (h : ValsS S w vs l) (k : Kp S w w') (hS : ∀ x ∈ S', x ∈ S ∨ w.heap.size ≤ x) : ValsS S' w' vs l :=
  ⟨h.1, fun j hj => by obtain ⟨Aj, cj, h1, h2, h3, h4⟩ := h.2 j hj; exact ⟨Aj, cj, h1, h2, h3, h4.move k hS⟩⟩
theorem ValsS.kp {S : List Nat} {w w' : World} {vs : List Value} {l : List (List Int)} (h : ValsS S w vs l) (k : Kp [] w w') : ValsS S w' vs l :=
  ⟨h.1, fun j hj => by obtain ⟨Aj, cj, h1, h2, h3, h4⟩ := h.2 j hj; exact ⟨Aj, cj, h1, h2, h3, h4.kp k (by simp)⟩⟩
theorem ValsS.nil (S : List Nat) (w : World) : ValsS S w [] [] := ⟨rfl, fun j hj => absurd hj (by simp)⟩
theorem ValsS.push {S : List Nat} {w : World} {vs : List Value} {l : List (List Int)} (h : ValsS S w vs l) {lo : Nat} {v : Value} {p : List Int} (o : Own 5 .u8 w lo v p) (hS : ∀ x ∈ S, x < lo) : ValsS S w (vs ++ [v]) (l ++ [p]) := by
  refine ⟨by simp [h.1], fun j hj => ?_⟩
  by_cases hjl : j < l.length
  · obtain ⟨Aj, cj, hv, h1, h2, h3⟩ := h.2 j hjl
    refine ⟨Aj, cj, ?_, ?_, h2, ?_⟩
    · rw [List.getElem?_append_left (by rw [h.1]; exact hjl), hv, List.getElem_append_left hjl]
    · rw [List.getElem_append_left hjl]; exact h1
    · rw [List.getElem_append_left hjl]; exact h3
  · have hj2 : j = l.length := by simp at hj; omega
    subst hj2
    obtain ⟨A, c, hv, h1, _, _, h4⟩ := own_rd o.1
    subst hv
    refine ⟨A, c, ?_, ?_, h4, ?_⟩
    · rw [List.getElem?_append_right (by rw [h.1]; exact Nat.le_refl _), h.1]
      simp
    · simpa using h1
    · have := o.rds hS
      simpa using this
end Go.Proofs.YtdiljpdohmeceaaGreat.H
namespace Go.Proofs.YtdiljpdohmeceaaGreat.frame
open Go.RowKit H O joins

/-- behind Scan -/
def FScan (xs : List Int) (w : World) (e : Ending) (w' : World) : Prop :=
  ∃ A c, e = .returned (.tuple #[.slice A (fScan xs).1.length c, .int .i64 (((fScan xs).2 : Nat) : Int)]) ∧ Rs [] w' A (fScan xs).1 ∧ (fScan xs).1.length ≤ c ∧ (A = none → c = 0) ∧ Kp [] w w'
/-- where Scan stands -/
structure At_ (xs : List Int) (w : World) (at_ m : Nat) (v : Value) (wr : World) (vs : List Value) (done : List (List Int)) : Prop where
  own : wr.ownsRow 0 24 1 v m vs
  vals : ValsS v.ownBlock.toList wr vs done
  lo : ∀ g, v.ownBlock = some g → w.heap.size ≤ g
  kp : Kp [] w wr
  eq : fScan xs = (done ++ (fScan (xs.drop at_)).1, at_ + (fScan (xs.drop at_)).2)
theorem At_.done {xs : List Int} {w : World} {at_ m : Nat} {v : Value} {wr : World} {vs : List Value} {done : List (List Int)} (h : At_ xs w at_ m v wr vs done) (he : fScan (xs.drop at_) = ([], 0)) : FScan xs w (.returned (.tuple #[v, .int .i64 (at_ : Int)])) wr := by
  have e := h.eq
  rw [he, List.append_nil, Nat.add_zero] at e
  obtain ⟨A, c, rfl, h1, h2, h3, h4⟩ := own_rd h.own
  have hm : done.length = m := by rw [← h.vals.1]; have := h.own.1; omega
  unfold FScan
  rw [e]
  exact ⟨A, c, by rw [hm], Vals.rs h.vals.vals h3, by rw [hm]; exact h1, h4, h.kp⟩

theorem At_.step {xs ys p : List Int} {w wr w1 w2 : World} {at_ m k : Nat} {v v1 v2 : Value} {vs : List Value} {done : List (List Int)} {o : Obj} (h : At_ xs w at_ m v wr vs done) (hy : xs.drop at_ = ys)
    (hst : fScan ys = (p :: (fScan (ys.drop k)).1, k + (fScan (ys.drop k)).2)) (k1 : Kp [] wr w1) (o1 : Own 5 .u8 w1 wr.heap.size v1 p) (o2 : w2.ownsRow 0 24 1 v2 (m + 1) (vs ++ [v1])) (k2 : Kp v.ownBlock.toList (w1.alloc o) w2)
    (a2 : At (w1.alloc o).heap.size v.ownBlock v2.ownBlock) : At_ xs w (at_ + k) (m + 1) v2 w2 (vs ++ [v1]) (done ++ [p]) := by
  have hs1 := k1.size
  have hs0 := h.kp.size
  have hlt := own_lt h.own
  have hsz : (w1.alloc o).heap.size = w1.heap.size + 1 := by simp
  refine ⟨o2, (((h.vals.kp k1).push o1 (fun x hx => hlt x (by simpa using hx))).kp ((Kp.refl [] w1).alloc o)).move k2 ?_, a2.ge (by omega) h.lo, ((h.kp.trans k1 (by simp)).alloc o).row k2 (fun x hx => .inr (h.lo x hx)), ?_⟩
  · intro x hx
    have hx' : v2.ownBlock = some x := by simpa using hx
    rcases a2 with h9 | ⟨j, h9, hj⟩
    · exact .inl (by rw [← h9]; exact hx)
    · rw [h9] at hx'
      cases hx'
      exact .inr hj
  · have e := h.eq
    rw [hy, hst] at e
    have hd : ys.drop k = xs.drop (at_ + k) := by rw [← hy, List.drop_drop]
    rw [← hd, e]
    simp [Nat.add_assoc]
theorem own_one {w : World} {lo : Nat} {v : Value} {p : List Int} (o : Own 5 .u8 w lo v p) : ∀ u ∈ [v], u.oneCell' = true := by
  obtain ⟨A, c, rfl, _⟩ := own_rd o.1
  intro u hu
  simp only [List.mem_singleton] at hu
  subst hu
  rfl

end Go.Proofs.YtdiljpdohmeceaaGreat.frame

/- Records one behind the other: plain words; and Encode of one row. -/
namespace Go.Proofs.YtdiljpdohmeceaaGreat.O
open Go.RowKit H

def encs (l : List (List Int)) : List Int := (l.map fEnc).flatten
theorem encs_nil : encs [] = [] := rfl
theorem encs_cons (x : List Int) (l : List (List Int)) : encs (x :: l) = fEnc x ++ encs l := by simp [encs]
theorem encs_app (l r : List (List Int)) : encs (l ++ r) = encs l ++ encs r := by simp [encs]
theorem encs_step (l : List (List Int)) (k : Nat) (h : k < l.length) : encs (l.take (k + 1)) = encs (l.take k) ++ fEnc l[k] := by
  rw [take_succ' l k h, encs_app, encs_cons, encs_nil, List.append_nil]
theorem encs_wf {l : List (List Int)} (h : ∀ x ∈ l, Wf x) : Wf (encs l) := by
  induction l with
  | nil => exact Wf.nil
  | cons x l ih =>
    rw [encs_cons]
    exact wf_app (fEnc_wf (h x (by simp))) (ih (fun y hy => h y (by simp [hy])))
theorem encs_ne {x : List Int} {l : List (List Int)} {r : List Int} : encs (x :: l) ++ r ≠ [] := by
  intro h
  have := congrArg List.length h
  rw [encs_cons, List.length_append, List.length_append, fEnc_len] at this
  simp only [List.length_nil] at this
  omega
theorem fScan_encs : ∀ (l : List (List Int)) (r : List Int), (∀ x ∈ l, x.length ≤ 1048576) → fScan (encs l ++ r) = (l ++ (fScan r).1, (encs l).length + (fScan r).2)
  | [], r, _ => by simp [encs_nil]
  | x :: l, r, h => by
    have hd := fDec_enc (p := x) (encs l ++ r) (h x (by simp))
    have hb : encs (x :: l) ++ r = fEnc x ++ (encs l ++ r) := by rw [encs_cons, List.append_assoc]
    rw [← hb] at hd
    have h0 : (fDec (encs (x :: l) ++ r)).2.2 = 0 := by rw [hd]
    have hdr : (encs (x :: l) ++ r).drop (x.length + 12) = encs l ++ r := by rw [hb, List.drop_left' (fEnc_len x)]
    rw [fScan_step encs_ne h0, hd, hdr, fScan_encs l r (fun y hy => h y (by simp [hy]))]
    rw [encs_cons, List.length_append, fEnc_len]
    simp [Nat.add_assoc]
theorem fScan_all (l : List (List Int)) (h : ∀ x ∈ l, x.length ≤ 1048576) : fScan (encs l) = (l, (encs l).length) := by
  have := fScan_encs l [] h
  rw [List.append_nil, fScan_end (.inl rfl), List.append_nil, Nat.add_zero] at this
  exact this
end Go.Proofs.YtdiljpdohmeceaaGreat.O
namespace Go.Proofs.YtdiljpdohmeceaaGreat.frame
open Go.RowKit H O joins
theorem enc_one {w : World} {A : Option Addr} {n c N : Nat} {x : List Int} (hn : x.length = n) (hN : N = n + 12) (hr : Rd w A (iv .u8 x)) (hc : n ≤ c) (hnil : A = none → c = 0) (hw : Wf x) (hm : n ≤ 1000000) :
    Calls Tryz.prog 127 #[.slice (some ⟨w.heap.size, 0, none⟩) 1 1] (w.alloc (.cells #[.slice A n c] 24)) fun e w' => ∃ A1 c1, e = .returned (.tuple #[.slice A1 N c1, .int .i64 0]) ∧ Kp [] w w' ∧ Rd w' A1 (iv .u8 (fEnc x)) ∧ N ≤ c1 ∧ (A1 = none → c1 = 0) := by
  have h := enc_any (some ⟨w.heap.size, 0, none⟩) 1 1 [x] (w.alloc (.cells #[.slice A n c] 24)) rfl (rs_cell w A x n c hn hc hnil 24 (RdS.new hr (Kp.refl _ _) (by simp)) (by simp)) (Nat.le_refl _)
    (by intro y hy; simp only [List.mem_singleton] at hy; subst hy; exact hw) (by simp; omega) (by decide)
  rw [show [x].flatten = x from by simp] at h
  refine h.mono ?_
  rintro e w' ⟨A1, c1, rfl, k1, j1, r1, g1, g1', n1⟩
  rw [hn, ← hN] at g1 ⊢
  exact ⟨A1, c1, rfl, ((Kp.refl [] w).alloc _).trans k1 (by simp), r1, g1, n1⟩
end Go.Proofs.YtdiljpdohmeceaaGreat.frame

/- A number in four bytes, and back: haystack/haystackref1.Four, haystack/haystackref1.FromFour. -/
namespace Go.Proofs.YtdiljpdohmeceaaGreat.ref1
open Go.RowKit H O

theorem four_any (v : Int) (w : World) (h0 : 0 ≤ v) (h1 : v < 4294967296) : Calls Tryz.prog 81 #[.int .u32 v] w fun e w' => e = .returned (.slice (some ⟨w.heap.size, 0, none⟩) 4 4) ∧ w' = w.alloc (.cells (iv .u8 (four v)).toArray 5) := by
  go_enter Tryz.func81, Tryz.ntmps81
  go_wp2
  go_ret
  have e : v / 16777216 % 256 = v / 16777216 := by omega
  refine ⟨rfl, ?_⟩
  show _ = w.alloc (.cells #[.int .u8 (v % 256), .int .u8 (v / 256 % 256), .int .u8 (v / 65536 % 256), .int .u8 (v / 16777216 % 256)] 5)
  rw [e]
set_option maxHeartbeats 4000000 in
theorem from_any (A : Option Addr) (n c : Nat) (xs : List Int) (w : World) (hn : xs.length = n) (h0 : Rd w A (iv .u8 xs)) (hw : Wf xs) (h4 : 4 ≤ n) : Calls Tryz.prog 112 #[.slice A n c] w fun e w' => e = .returned (.int .u32 (unf xs)) ∧ ∃ k, w' = w.drewN k := by
  obtain ⟨a, rfl, d0⟩ := h0.int 0 (by omega)
  obtain ⟨_, e, d1⟩ := h0.int 1 (by omega)
  cases e
  obtain ⟨_, e, d2⟩ := h0.int 2 (by omega)
  cases e
  obtain ⟨_, e, d3⟩ := h0.int 3 (by omega)
  cases e
  obtain ⟨x0, h0'⟩ : ∃ x, xs[0] = x := ⟨_, rfl⟩
  obtain ⟨x1, h1'⟩ : ∃ x, xs[1] = x := ⟨_, rfl⟩
  obtain ⟨x2, h2'⟩ : ∃ x, xs[2] = x := ⟨_, rfl⟩
  obtain ⟨x3, h3'⟩ : ∃ x, xs[3] = x := ⟨_, rfl⟩
  rw [h0'] at d0
  rw [h1'] at d1
  rw [h2'] at d2
  rw [h3'] at d3
  have k0 : 0 < n := by omega
  have k1 : (1 : Int) < (n : Int) := by omega
  have k2 : (2 : Int) < (n : Int) := by omega
  have k3 : (3 : Int) < (n : Int) := by omega
  obtain ⟨b, o, s⟩ := a
  obtain rfl : s = none := by simpa [Addr.add] using World.cell?_spot d0
  rw [Go.WideShapes.add_plain] at d0 d1 d2 d3
  rw [Nat.add_zero] at d0
  have HV := As.mk (from_val x0 x1 x2 x3 (by rw [← h0']; exact hw _ (List.getElem_mem _)) (by rw [← h1']; exact hw _ (List.getElem_mem _)) (by rw [← h2']; exact hw _ (List.getElem_mem _)) (by rw [← h3']; exact hw _ (List.getElem_mem _)))
  have HU : As (unf xs = x0 + x1 * 256 + x2 * 65536 + x3 * 16777216) := ⟨by
    rw [← h0', ← h1', ← h2', ← h3', unf]
    simp only [List.getD_eq_getElem?_getD]
    rw [List.getElem?_eq_getElem (by omega), List.getElem?_eq_getElem (by omega), List.getElem?_eq_getElem (by omega), List.getElem?_eq_getElem (by omega)]
    rfl⟩
  clear h0 hn h0' h1' h2' h3' hw
  go_enter Tryz.func112, Tryz.ntmps112
  go_wp2
  go_region_held3 (fun w' => w'.cell? ⟨b, o, none⟩ = some (.int .u8 x0) ∧ w'.cell? ⟨b, o + 1, none⟩ = some (.int .u8 x1) ∧ w'.cell? ⟨b, o + 2, none⟩ = some (.int .u8 x2) ∧ w'.cell? ⟨b, o + 3, none⟩ = some (.int .u8 x3)) (exact ⟨d0, d1, d2, d3⟩) (fail)
  go_wp2
  go_ret
  rw [HU.out, ← HV.out]
  exact ⟨rfl, 1, rfl⟩
end Go.Proofs.YtdiljpdohmeceaaGreat.ref1

/- haystackref8: Encode, Decode, One. -/
namespace Go.Proofs.YtdiljpdohmeceaaGreat.O
open Go.RowKit H
theorem head_iff {xs : List Int} (hw : Wf xs) (h8 : 8 ≤ xs.length) : xs.take 8 = head (unf xs) ↔ unf (xs.drop 4) = crc (xs.take 4) := by
  have hw4 := hw.take 4
  have e4 : four (unf xs) = xs.take 4 := by
    have h := four_unf (l := xs.take 4) (by rw [List.length_take]; omega) hw4
    rwa [unf_take (by omega)] at h
  have e8 : xs.take 8 = xs.take 4 ++ (xs.drop 4).take 4 := by
    rw [show (8 : Nat) = 4 + 4 from rfl, List.take_add]
  have hd : ((xs.drop 4).take 4).length = 4 := by rw [List.length_take, List.length_drop]; omega
  rw [head, e4, e8]
  constructor
  · intro h
    have h1 := List.append_cancel_left h
    have h2 := congrArg unf h1
    rwa [unf_take (by omega), unf_four (crc_le _).1 (crc_le _).2] at h2
  · intro h
    rw [← h]
    have h1 := four_unf hd ((hw.drop 4).take 4)
    rw [unf_take (by omega)] at h1
    rw [h1]
theorem fDec_err {b : List Int} (h : (fDec b).2.2 ≠ 0) : (fDec b).1 = [] := by
  rcases fDec_form b with h0 | h0
  · exact absurd h0 h
  · rw [h0]
end Go.Proofs.YtdiljpdohmeceaaGreat.O
namespace Go.Proofs.YtdiljpdohmeceaaGreat.ref8
open Go.RowKit H O joins frame

theorem four_acc {w wr : World} (k : Kp [] w wr) (v : Int) (h0 : 0 ≤ v) (h1 : v < 4294967296) : Calls Tryz.prog 81 #[.int .u32 v] wr fun e w' => ∃ A, e = .returned (.slice A 4 4) ∧ Acc w w' (.slice A 4 4) 4 (four v) ∧ Rd w' A (iv .u8 (four v)) ∧ Kp [] wr w' ∧ (A = none → 4 = 0) := by
  refine (ref1.four_any v wr h0 h1).mono ?_
  rintro e w' ⟨rfl, rfl⟩
  have ho := own_new wr (iv .u8 (four v)) 5 (by rw [iv_len, four_len]; decide)
  have hs := k.size
  exact ⟨_, rfl, ⟨ho, by intro g hg; simp [Value.ownBlock] at hg; omega, k.alloc _⟩, rd_new wr _ _, (Kp.refl [] wr).alloc _, by simp⟩

set_option maxHeartbeats 4000000 in
set_option maxRecDepth 100000 in
-- PART E
theorem enc_any (A : Option Addr) (n c : Nat) (p : List Int) (w : World) (hn : p.length = n) (hr : Rd w A (iv .u8 p)) (hnil : A = none → c = 0) (hw : Wf p) (hm : n ≤ 1000000) (N : Nat) (hN : N = n + 12) :
    Calls Tryz.prog 42 #[.slice A n c] w fun e w' => ∃ A1 c1, e = .returned (.tuple #[.slice A1 N c1, .int .i64 0]) ∧ Acc w w' (.slice A1 N c1) N (fEnc p) ∧ N ≤ c1 := by
  have HR := As.mk hr
  have HNL := As.mk hnil
  have HL := As.mk hn
  have hwT : IntKind.u32.wrap (n : Int) = n := by rw [IntKind.wrap_u32]; omega
  have hwT2 : (n : Int) % 4294967296 = n := by omega
  have HF1 := As.mk (four_acc (Kp.refl [] w) (n : Int) (by omega) (by omega))
  obtain ⟨s1, hs1⟩ : ∃ s, s = crc (four (n : Int)) := ⟨_, rfl⟩
  obtain ⟨b2, hb2⟩ : ∃ b, b = head (n : Int) ++ p := ⟨_, rfl⟩
  obtain ⟨s2, hs2⟩ : ∃ s, s = crc b2 := ⟨_, rfl⟩
  obtain ⟨M, hM⟩ : ∃ M, M = 8 + n := ⟨_, rfl⟩
  have HSB1 : As (0 ≤ s1 ∧ s1 < 4294967296) := ⟨by rw [hs1]; exact crc_le _⟩
  have HSB2 : As (0 ≤ s2 ∧ s2 < 4294967296) := ⟨by rw [hs2]; exact crc_le _⟩
  have HH : As (four (n : Int) ++ four s1 = head (n : Int)) := ⟨by rw [head, hs1]⟩
  have HB2 := As.mk hb2
  have HFE : As (b2 ++ four s2 = fEnc p) := ⟨by rw [fEnc, hn, ← hb2, hs2]⟩
  have HM := As.mk hM
  have HLB : As (b2.length = M) := ⟨by rw [hb2, List.length_append, head_len, hn, hM]⟩
  have HWB : As (Wf b2) := ⟨by rw [hb2]; exact wf_app (head_wf _) hw⟩
  have HNM : As (N = M + 4) := ⟨by omega⟩
  have HS1 := As.mk hs1
  have HS2 := As.mk hs2
  have hM9 : M ≤ 1000008 := by omega
  clear hr hn hnil hw hs1 hb2 hs2 hM hN
  go_enter Tryz.func42, Tryz.ntmps42
  go_wp2_with (first
    | (go_at_call 81; refine HF1.out.mono ?_; rintro e w1 ⟨A1, rfl, a1, r1, k1, n1⟩; have HA1 := As.mk a1; have HSM1 := As.mk (sum.ref_any A1 4 4 (four (n : Int)) w1 (four_len _) r1 (by decide) (four_wf _)); rw [← HS1.out] at HSM1; clear a1 r1 k1 n1 HF1)
    | (go_at_call 82; refine HSM1.out.mono ?_; rintro e w2 ⟨rfl, nk2, hw2⟩; have HA2 := As.mk (HA1.out.keep (w1 := w2) (by rw [hw2]; exact (Kp.refl [] w1).drewN _)); have HF2 := As.mk (four_acc HA2.out.kp s1 HSB1.out.1 HSB1.out.2); clear hw2 HSM1)
    | (go_at_call 81; refine HF2.out.mono ?_; rintro e w3 ⟨A3, rfl, -, r3, k3, n3⟩; have HA3 := As.mk (HA2.out.keep k3); have HR3 := As.mk r3; have HN3 := As.mk n3; clear r3 k3 n3 HF2)
    | (at_builtin; refine clone.app8 rfl (.tmp 17) (.tmp 18) rfl (.slice A4 8 c4) 8 (iv .u8 (head (n : Int))) rfl HA4.out.own A n c (iv .u8 p) rfl (by rw [iv_len, HL.out]) (HA4.out.kp.rd_new HR.out (by simp)) HNL.out (iv_one _ _) (by omega) ?_; intro v5 w5 o5 k5 a5; have h5 := HA4.out.more o5 k5 a5 HM.out; rw [← HB2.out] at h5; obtain ⟨A5, c5, rfl, hc5, _, r5, _⟩ := own_rd h5.own; have HA5 := As.mk h5; have HSM2 := As.mk (sum.ref_any A5 M c5 b2 w5 HLB.out r5 (by omega) HWB.out); rw [← HS2.out] at HSM2; clear o5 k5 a5 h5 r5)
    | (at_builtin; refine clone.app8 rfl (.tmp 12) (.tmp 15) rfl (.slice A1 4 4) 4 (iv .u8 (four (n : Int))) rfl HA3.out.own A3 4 4 (iv .u8 (four s1)) rfl (by rw [iv_len, four_len]) HR3.out HN3.out (iv_one _ _) (by decide) ?_; intro v4 w4 o4 k4 a4; have h4 := HA3.out.more o4 k4 a4 (rfl : 8 = 4 + 4); rw [HH.out] at h4; obtain ⟨A4, c4, rfl, _, _, _, _⟩ := own_rd h4.own; have HA4 := As.mk h4; clear o4 k4 a4 h4)
    | (go_at_call 82; refine HSM2.out.mono ?_; rintro e w6 ⟨rfl, nk6, hw6⟩; have HA6 := As.mk (HA5.out.keep (w1 := w6) (by rw [hw6]; exact (Kp.refl [] w5).drewN _)); have HF3 := As.mk (four_acc HA6.out.kp s2 HSB2.out.1 HSB2.out.2); clear hw6 HSM2)
    | (go_at_call 81; refine HF3.out.mono ?_; rintro e w7 ⟨A7, rfl, -, r7, k7, n7⟩; have HA7 := As.mk (HA6.out.keep k7); have HR7 := As.mk r7; have HN7 := As.mk n7; clear r7 k7 n7 HF3)
    | (at_builtin; refine clone.app8 rfl (.tmp 20) (.tmp 23) rfl (.slice A5 M c5) M (iv .u8 b2) rfl HA7.out.own A7 4 4 (iv .u8 (four s2)) rfl (by rw [iv_len, four_len]) HR7.out HN7.out (iv_one _ _) (by omega) ?_; intro v8 w8 o8 k8 a8; have h8 := HA7.out.more o8 k8 a8 HNM.out; rw [HFE.out] at h8; obtain ⟨A8, c8, rfl, hc8, _, _, _⟩ := own_rd h8.own; have HA8 := As.mk h8; clear o8 k8 a8 h8))
  go_ret2
  exact ⟨A8, c8, rfl, HA8.out, hc8⟩
-- END E

set_option maxHeartbeats 4000000 in
set_option maxRecDepth 100000 in
theorem dec_any (A : Option Addr) (n c : Nat) (xs : List Int) (w : World) (hn : xs.length = n) (hr : Rd w A (iv .u8 xs)) (hc : n ≤ c) (hw : Wf xs) (hm : n ≤ 140737488351232) :
    Calls Tryz.prog 77 #[.slice A n c] w (FDec xs w) := by
  by_cases h8 : n < 8
  · have HE : As (fDec xs = ([], 0, 2)) := ⟨by rw [fDec, if_pos (by omega)]⟩
    clear hr hw hn
    go_enter Tryz.func77, Tryz.ntmps77
    go_wp2
    go_ret3
    exact fdec_none HE.out (Kp.refl _ _)
  · obtain ⟨a, rfl, d9⟩ := hr.int 0 (by omega)
    obtain ⟨b0, o0, sp⟩ := a
    obtain rfl : sp = none := by simpa [Addr.add] using World.cell?_spot d9
    clear d9
    obtain ⟨N, hN⟩ : ∃ N : Nat, (unf xs) = (N : Int) := Int.eq_ofNat_of_zero_le (unf_le hw).1
    have hN32 := (unf_le hw).2
    rw [hN] at hN32
    have HN32 := As.mk hN32
    clear hN32
    have hsl4 : ∀ W, (Instr.slice 24 (.slice (some ⟨b0, o0, none⟩) n c) none (some (.int .i64 4)) none).run Tryz.prog W = .ok (.slice (some ⟨b0, o0, none⟩) 4 c) W := slice_head ht8 hz8 (some ⟨b0, o0, none⟩) n c 4 (by omega) (by simp)
    obtain ⟨a4, hsl4', hrd4⟩ := slice_tail ht8 hz8 ⟨b0, o0, none⟩ n c 4 (by omega) hc
    have hsl4'' : ∀ W, (Instr.slice 24 (.slice (some ⟨b0, o0, none⟩) n c) (some (.int .i64 4)) none none).run Tryz.prog W = .ok (.slice (some a4) (n - 4) (c - 4)) W := hsl4'
    clear hsl4'
    obtain ⟨n4, hn4⟩ : ∃ k, n - 4 = k := ⟨_, rfl⟩
    obtain ⟨c4, hc4⟩ : ∃ k, c - 4 = k := ⟨_, rfl⟩
    rw [hn4, hc4] at hsl4''
    have hw64 : IntKind.i64.wrap (N : Int) = N := by have := HN32.out; rw [IntKind.wrap_i64]; omega
    obtain ⟨y1, hy1⟩ : ∃ z, unf (xs.drop 4) = z := ⟨_, rfl⟩
    obtain ⟨y2, hy2⟩ : ∃ z, crc (xs.take 4) = z := ⟨_, rfl⟩
    have HFA : As (∀ wX, Kp [] w wX → Calls Tryz.prog 112 #[.slice (some a4) n4 c4] wX fun e w' => e = .returned (.int .u32 y1) ∧ Kp [] w w') := ⟨fun wX k => by
      have h := hrd4 wX (iv .u8 xs) (by rw [iv_len, hn]) (k.rd_new hr (by simp))
      rw [iv_drop] at h
      refine (ref1.from_any (some a4) n4 c4 (xs.drop 4) wX (by rw [List.length_drop]; omega) h (hw.drop 4) (by omega)).mono ?_
      rintro e w' ⟨rfl, nk, rfl⟩
      exact ⟨by rw [hy1], k.drewN _⟩⟩
    have HSA : As (∀ wX, Kp [] w wX → Calls Tryz.prog 82 #[.slice (some ⟨b0, o0, none⟩) 4 c] wX fun e w' => e = .returned (.int .u32 y2) ∧ Kp [] w w') := ⟨fun wX k => by
      have h := (k.rd_new hr (by simp)).take 4
      rw [iv_take] at h
      refine (sum.ref_any (some ⟨b0, o0, none⟩) 4 c (xs.take 4) wX (by rw [List.length_take]; omega) h (by decide) (hw.take 4)).mono ?_
      rintro e w' ⟨rfl, nk, rfl⟩
      exact ⟨by rw [hy2], k.drewN _⟩⟩
    have HFB : As (∀ wX, Kp [] w wX → Calls Tryz.prog 112 #[.slice (some ⟨b0, o0, none⟩) n c] wX fun e w' => e = .returned (.int .u32 (N : Int)) ∧ Kp [] w w') := ⟨fun wX k => by
      refine (ref1.from_any (some ⟨b0, o0, none⟩) n c xs wX hn (k.rd_new hr (by simp)) hw (by omega)).mono ?_
      rintro e w' ⟨rfl, nk, rfl⟩
      exact ⟨by rw [hN], k.drewN _⟩⟩
    by_cases hh : y1 = y2
    · have hh8 : xs.take 8 = head N := by rw [← hN]; exact (head_iff hw (by omega)).2 (by rw [hy1, hy2, hh])
      subst hh
      by_cases hbig : 1048576 < N
      · have HE : As (fDec xs = ([], 0, 5)) := ⟨by rw [fDec, if_neg (by omega), hN, if_neg (by simpa using hh8), if_pos (by omega)]⟩
        clear hr hw hn hN hh8 hrd4 hn4 hc4 hy1 hy2
        go_enter Tryz.func77, Tryz.ntmps77
        go_wp2
        go_region_held3 (fun w' => True) (exact trivial) (first
          | (go_at_call 112; refine (HFA.out w.drew (Kp.refl [] w).drew).mono ?_; rintro e w1 ⟨rfl, k1⟩; have HK1 := As.mk k1; clear k1)
          | (go_at_call 82; refine (HSA.out _ HK1.out).mono ?_; rintro e w2 ⟨rfl, k2⟩; have HK2 := As.mk k2; clear k2))
        have HFB1 := As.mk (HFB.out w2 HK2.out)
        clear HFA HSA HFB
        go_wp2_with (go_at_call 112; refine HFB1.out.mono ?_; rintro e w3 ⟨rfl, k3⟩; have HK3 := As.mk k3; clear k3 HFB1)
        go_ret3
        exact fdec_none HE.out HK3.out
      · by_cases hsh : n < 12 + N
        · have HE : As (fDec xs = ([], 0, 2)) := ⟨by rw [fDec, if_neg (by omega), hN, if_neg (by simpa using hh8), if_neg (by omega), if_pos (by omega)]⟩
          have hsh' : (n : Int) < 12 + (N : Int) := by omega
          clear hr hw hn hN hh8 hrd4 hn4 hc4 hy1 hy2
          go_enter Tryz.func77, Tryz.ntmps77
          go_wp2
          go_region_held3 (fun w' => True) (exact trivial) (first
            | (go_at_call 112; refine (HFA.out w.drew (Kp.refl [] w).drew).mono ?_; rintro e w1 ⟨rfl, k1⟩; have HK1 := As.mk k1; clear k1)
            | (go_at_call 82; refine (HSA.out _ HK1.out).mono ?_; rintro e w2 ⟨rfl, k2⟩; have HK2 := As.mk k2; clear k2))
          have HFB1 := As.mk (HFB.out w2 HK2.out)
          clear HFA HSA HFB
          go_wp2_with (go_at_call 112; refine HFB1.out.mono ?_; rintro e w3 ⟨rfl, k3⟩; have HK3 := As.mk k3; clear k3 HFB1)
          go_ret3
          exact fdec_none HE.out HK3.out
        · have hsh' : ¬ ((n : Int) < 12 + (N : Int)) := by omega
          obtain ⟨M, hM⟩ : ∃ M, M = 8 + N := ⟨_, rfl⟩
          have hMi : (8 : Int) + (N : Int) = (M : Int) := by omega
          have hslM : ∀ W, (Instr.slice 24 (.slice (some ⟨b0, o0, none⟩) n c) none (some (.int .i64 (M : Int))) none).run Tryz.prog W = .ok (.slice (some ⟨b0, o0, none⟩) M c) W := slice_head ht8 hz8 (some ⟨b0, o0, none⟩) n c M (by omega) (by simp)
          obtain ⟨a2, hsl2, hrd2⟩ := slice_tail ht8 hz8 ⟨b0, o0, none⟩ n c M (by omega) hc
          obtain ⟨n2, hn2⟩ : ∃ n2, n - M = n2 := ⟨_, rfl⟩
          obtain ⟨c2', hc2⟩ : ∃ c2, c - M = c2 := ⟨_, rfl⟩
          rw [hn2, hc2] at hsl2
          have hwM : IntKind.i64.wrap (8 + (N : Int)) = (M : Int) := by rw [IntKind.wrap_i64]; omega
          have hwM2 : IntKind.i64.wrap (M : Int) = (M : Int) := by rw [IntKind.wrap_i64]; omega
          obtain ⟨z1, hz1⟩ : ∃ z, unf (xs.drop M) = z := ⟨_, rfl⟩
          obtain ⟨z2, hz2⟩ : ∃ z, crc (xs.take M) = z := ⟨_, rfl⟩
          have HF2 : As (∀ wX, Kp [] w wX → Calls Tryz.prog 112 #[.slice (some a2) n2 c2'] wX fun e w' => e = .returned (.int .u32 z1) ∧ Kp [] w w') := ⟨fun wX k => by
            have h := hrd2 wX (iv .u8 xs) (by rw [iv_len, hn]) (k.rd_new hr (by simp))
            rw [iv_drop] at h
            refine (ref1.from_any (some a2) n2 c2' (xs.drop M) wX (by rw [List.length_drop]; omega) h (hw.drop M) (by omega)).mono ?_
            rintro e w' ⟨rfl, nk, rfl⟩
            exact ⟨by rw [hz1], k.drewN _⟩⟩
          have hlM : (xs.take M).length = M := by rw [List.length_take]; omega
          have HSM : As (∀ wX, Kp [] w wX → Calls Tryz.prog 82 #[.slice (some ⟨b0, o0, none⟩) M c] wX fun e w' => e = .returned (.int .u32 z2) ∧ Kp [] w w') := ⟨fun wX k => by
            have h := (k.rd_new hr (by simp)).take M
            rw [iv_take] at h
            refine (sum.ref_any (some ⟨b0, o0, none⟩) M c (xs.take M) wX hlM h (by omega) (hw.take M)).mono ?_
            rintro e w' ⟨rfl, nk, rfl⟩
            exact ⟨by rw [hz2], k.drewN _⟩⟩
          obtain ⟨K, hK⟩ : ∃ K, 12 + N = K := ⟨_, rfl⟩
          have hKi : (12 : Int) + (N : Int) = (K : Int) := by omega
          by_cases hz : z1 = z2
          · have HE : As (fDec xs = ((xs.take M).drop 8, K, 0)) := ⟨by
              rw [fDec, if_neg (by omega), hN, if_neg (by simpa using hh8), if_neg (by omega), if_neg (by omega), Int.toNat_natCast, ← hM, if_neg (by rw [hz1, hz2]; simpa using hz), hK]⟩
            have hslm : ∀ W, (Instr.slice 24 (.slice (some ⟨b0, o0, none⟩) n c) (some (.int .i64 8)) (some (.int .i64 (M : Int))) none).run Tryz.prog W = .ok (.slice (some ⟨b0, o0 + 8, none⟩) (M - 8) (c - 8)) W := slice_mid ht8 hz8 b0 o0 n c 8 M (by omega) (by omega) (by omega)
            rw [show M - 8 = N by omega] at hslm
            have HRX : As (∀ wX, Kp [] w wX → Rd wX (some ⟨b0, o0 + 8, none⟩) (iv .u8 ((xs.take M).drop 8))) := ⟨fun wX k => by
              have h := ((k.rd_new hr (by simp)).take M).drop 8
              rwa [iv_take, iv_drop, Go.WideShapes.add_plain] at h⟩
            have HLX : As (((xs.take M).drop 8).length = N) := ⟨by rw [List.length_drop, hlM]; omega⟩
            subst hz
            have hsh2 : ((n : Int) < (K : Int)) = False := by simp; omega
            clear hr hw hn hN hh8 hrd2 hrd4 hn4 hc4 hy1 hy2 hz1 hz2 hlM hM hn2 hc2 hK
            go_enter Tryz.func77, Tryz.ntmps77
            go_wp2
            go_region_held3 (fun w' => True) (exact trivial) (first
              | (go_at_call 112; refine (HFA.out w.drew (Kp.refl [] w).drew).mono ?_; rintro e w1 ⟨rfl, k1⟩; have HK1 := As.mk k1; clear k1)
              | (go_at_call 82; refine (HSA.out _ HK1.out).mono ?_; rintro e w2 ⟨rfl, k2⟩; have HK2 := As.mk k2; clear k2))
            have HFB1 := As.mk (HFB.out w2 HK2.out)
            clear HFA HSA HFB
            go_wp2_with (go_at_call 112; refine HFB1.out.mono ?_; rintro e w3 ⟨rfl, k3⟩; have HK3 := As.mk k3; clear k3 HFB1)
            go_region_held3 (fun w' => True) (exact trivial) (first
              | (go_at_call 112; refine (HF2.out w3.drew HK3.out.drew).mono ?_; rintro e w4 ⟨rfl, k4⟩; have HK4 := As.mk k4; clear k4)
              | (go_at_call 82; refine (HSM.out _ HK4.out).mono ?_; rintro e w5 ⟨rfl, k5⟩; have HK5 := As.mk k5; clear k5))
            clear HF2 HSM
            go_wp2_with (at_builtin; refine clone.app8 rfl (.tmp 37) (.tmp 41) rfl (.slice (some ⟨w5.heap.size, 0, none⟩) 0 0) 0 [] rfl (Acc.empty HK5.out).own (some ⟨b0, o0 + 8, none⟩) N (c - 8) (iv .u8 ((xs.take M).drop 8)) rfl (by rw [iv_len, HLX.out]) (HRX.out _ (HK5.out.alloc _)) (by simp) (iv_one _ _) (by omega) ?_; intro v6 w6 o6 k6 a6; have h6 := (Acc.empty HK5.out).more (X := []) o6 k6 a6 (Nat.zero_add N).symm; rw [List.nil_append] at h6; have HA6 := As.mk h6; clear o6 k6 a6 h6)
            go_ret3
            refine ⟨v6, by rw [HE.out]; rfl, ?_, HA6.out.kp⟩
            rw [HE.out]
            exact ⟨by have h9 := HA6.out.own; rwa [HLX.out], HA6.out.lo⟩
          · have HE : As (fDec xs = ([], 0, 4)) := ⟨by
              rw [fDec, if_neg (by omega), hN, if_neg (by simpa using hh8), if_neg (by omega), if_neg (by omega), Int.toNat_natCast, ← hM, if_pos (by rw [hz1, hz2]; exact hz)]⟩
            have hzb : (z1 != z2) = true := by simpa using hz
            have hsh2 : ((n : Int) < (K : Int)) = False := by simp; omega
            clear hr hw hn hN hh8 hrd2 hrd4 hn4 hc4 hy1 hy2 hz1 hz2 hlM hM hn2 hc2 hK hz
            go_enter Tryz.func77, Tryz.ntmps77
            go_wp2
            go_region_held3 (fun w' => True) (exact trivial) (first
              | (go_at_call 112; refine (HFA.out w.drew (Kp.refl [] w).drew).mono ?_; rintro e w1 ⟨rfl, k1⟩; have HK1 := As.mk k1; clear k1)
              | (go_at_call 82; refine (HSA.out _ HK1.out).mono ?_; rintro e w2 ⟨rfl, k2⟩; have HK2 := As.mk k2; clear k2))
            have HFB1 := As.mk (HFB.out w2 HK2.out)
            clear HFA HSA HFB
            go_wp2_with (go_at_call 112; refine HFB1.out.mono ?_; rintro e w3 ⟨rfl, k3⟩; have HK3 := As.mk k3; clear k3 HFB1)
            go_region_held3 (fun w' => True) (exact trivial) (first
              | (go_at_call 112; refine (HF2.out w3.drew HK3.out.drew).mono ?_; rintro e w4 ⟨rfl, k4⟩; have HK4 := As.mk k4; clear k4)
              | (go_at_call 82; refine (HSM.out _ HK4.out).mono ?_; rintro e w5 ⟨rfl, k5⟩; have HK5 := As.mk k5; clear k5))
            clear HF2 HSM
            go_wp2
            go_ret3
            exact fdec_none HE.out HK5.out
    · have HE : As (fDec xs = ([], 0, 4)) := ⟨by rw [fDec, if_neg (by omega), if_pos (fun h => hh (by rw [← hy1, ← hy2]; exact (head_iff hw (by omega)).1 h))]⟩
      have hyb : (y1 != y2) = true := by simpa using hh
      clear hr hw hn hN hrd4 hn4 hc4 hy1 hy2 hh
      go_enter Tryz.func77, Tryz.ntmps77
      go_wp2
      go_region_held3 (fun w' => True) (exact trivial) (first
        | (go_at_call 112; refine (HFA.out w.drew (Kp.refl [] w).drew).mono ?_; rintro e w1 ⟨rfl, k1⟩; have HK1 := As.mk k1; clear k1)
        | (go_at_call 82; refine (HSA.out _ HK1.out).mono ?_; rintro e w2 ⟨rfl, k2⟩; have HK2 := As.mk k2; clear k2))
      go_wp2
      go_ret3
      exact fdec_none HE.out HK2.out
end Go.Proofs.YtdiljpdohmeceaaGreat.ref8

/- haystackref8: One, Scan. -/
namespace Go.Proofs.YtdiljpdohmeceaaGreat.ref8
open Go.RowKit H O joins frame

set_option maxHeartbeats 4000000 in
theorem one_any (A : Option Addr) (n c : Nat) (xs : List Int) (w : World) (hn : xs.length = n) (hr : Rd w A (iv .u8 xs)) (hc : n ≤ c) (hw : Wf xs) (hm : n ≤ 140737488351232) :
    Calls Tryz.prog 33 #[.slice A n c] w (FOne xs w) := by
  have HD := dec_any A n c xs w hn hr hc hw hm
  unfold FDec at HD
  obtain ⟨e, he⟩ : ∃ e, (fDec xs).2.2 = e := ⟨_, rfl⟩
  obtain ⟨k, hk⟩ : ∃ k, (fDec xs).2.1 = k := ⟨_, rfl⟩
  rw [he, hk] at HD
  have HD := As.mk HD
  by_cases h0 : e = 0
  · subst h0
    by_cases h1 : k = n
    · subst h1
      have HE : As (fOne xs = ((fDec xs).1, 0)) := ⟨by rw [fOne, if_neg (by rw [hk]; omega), he]⟩
      clear hr hw hn he hk
      go_enter Tryz.func33, Tryz.ntmps33
      go_wp2_with (go_at_call 77; refine HD.out.mono ?_; rintro e w1 ⟨v, rfl, o1, k1⟩; have HO := As.mk o1; have HK := As.mk k1; clear o1 k1)
      go_ret2
      refine ⟨v, by rw [HE.out]; rfl, ?_, HK.out⟩
      rw [HE.out]
      exact HO.out
    · have HE : As (fOne xs = ([], 3)) := ⟨by rw [fOne, if_pos ⟨he, by rw [hk]; omega⟩]⟩
      have hkn : ((k : Int) != (n : Int)) = true := by simp; omega
      clear hr hw hn he hk
      go_enter Tryz.func33, Tryz.ntmps33
      go_wp2_with (go_at_call 77; refine HD.out.mono ?_; rintro e w1 ⟨v, rfl, o1, k1⟩; have HK := As.mk k1; clear o1 k1)
      go_ret2
      refine ⟨_, by rw [HE.out]; rfl, ?_, HK.out⟩
      rw [HE.out]
      exact Own.nil _ _ _ _
  · have HE : As (fOne xs = ([], e)) := ⟨by rw [fOne, if_neg (by rw [he]; omega), he, fDec_err (by rw [he]; exact h0)]⟩
    have h0b : (e == 0) = false := by simpa using h0
    have h0c : (e != 0) = true := by simpa using h0
    clear hr hw hn he hk
    go_enter Tryz.func33, Tryz.ntmps33
    go_wp2_with (go_at_call 77; refine HD.out.mono ?_; rintro e w1 ⟨v, rfl, o1, k1⟩; have HK := As.mk k1; clear o1 k1)
    go_ret2
    refine ⟨_, by rw [HE.out]; rfl, ?_, HK.out⟩
    rw [HE.out]
    exact Own.nil _ _ _ _

end Go.Proofs.YtdiljpdohmeceaaGreat.ref8

/- haystacklaw24.same answers whether two rows of bytes are one. -/
namespace Go.Proofs.YtdiljpdohmeceaaGreat.haystacklaw24
open Go.RowKit H

theorem ret_bool {a b : Bool} (h : a = b) : Ending.returned (.bool a) = .returned (.bool b) := by rw [h]

theorem take_eq_step {xs ys : List Int} {k : Nat} (h : xs.take k = ys.take k) (hx : k < xs.length) (hy : k < ys.length) (he : xs[k] = ys[k]) : xs.take (k + 1) = ys.take (k + 1) := by
  rw [List.take_succ_eq_append_getElem hx, List.take_succ_eq_append_getElem hy, h, he]

set_option maxHeartbeats 1000000 in
theorem same_any (A0 A1 : Option Addr) (n0 c0 n1 c1 : Nat) (xs ys : List Int) (w : World) (l0 : xs.length = n0) (l1 : ys.length = n1) (h0 : Rd w A0 (iv .u8 xs)) (h1 : Rd w A1 (iv .u8 ys)) (hm : xs.length ≤ 9223372036854775807) :
    Calls Tryz.prog 14 #[.slice A0 n0 c0, .slice A1 n1 c1] w fun e w' => e = .returned (.bool (decide (xs = ys))) ∧ ∃ n, w' = w.drewN n := by
  subst l0 l1
  have H0 := As.mk h0
  have H1 := As.mk h1
  clear h0 h1
  by_cases hl : xs.length = ys.length
  · have b1 : ((xs.length : Int) != (ys.length : Int)) = false := by simp [hl]
    have HL := As.mk hl
    clear hl
    go_enter Tryz.func14, Tryz.ntmps14
    go_wp2
    go_loopw [5] (fun i wr => ∃ k : Nat, i = .int .i64 k ∧ k ≤ xs.length ∧ As (xs.take k = ys.take k) ∧ ∃ n, wr = w.drewN n) (fun i _ => xs.length - (intOf i).toNat)
    case atStart => exact ⟨0, rfl, by omega, ⟨rfl⟩, 0, rfl⟩
    case round =>
      obtain ⟨k, rfl, hk, HT, n, rfl⟩ := hrel
      by_cases hlt : k < xs.length
      · have hlt2 : k < ys.length := by have := HL.out; omega
        obtain ⟨a0, rfl, d0⟩ := H0.out.int k hlt
        obtain ⟨a1, rfl, d1⟩ := H1.out.int k hlt2
        by_cases he : xs[k] = ys[k]
        · have e1 : (xs[k] != ys[k]) = false := by simp [he]
          have HE := As.mk he
          clear he
          go_wp2
          go_quiet (fail)
          go_wp2
          go_roundw
          case rel => exact ⟨k + 1, by go_num, by omega, ⟨take_eq_step HT.out hlt hlt2 HE.out⟩, _, rfl⟩
          case measure => simp [intOf]; omega
        · have e1 : (xs[k] != ys[k]) = true := by simp [he]
          have HE := As.mk he
          clear he
          go_wp2
          go_quiet (fail)
          go_wp2
          go_ret
          exact ⟨ret_bool (by symm; rw [decide_eq_false_iff_not]; intro e; subst e; exact HE.out rfl), by first | exact ⟨_, rfl⟩ | exact ⟨_, World.drewN_drewN ..⟩⟩
      · go_wp2
        go_ret
        exact ⟨ret_bool (by
          symm
          rw [decide_eq_true_eq]
          have e := HT.out
          have := HL.out
          rwa [List.take_of_length_le (by omega), List.take_of_length_le (by omega)] at e), _, rfl⟩
  · have b1 : ((xs.length : Int) != (ys.length : Int)) = true := by simp; omega
    have HL := As.mk hl
    clear hl
    go_enter Tryz.func14, Tryz.ntmps14
    go_wp2
    go_ret
    exact ⟨ret_bool (by symm; rw [decide_eq_false_iff_not]; intro e; subst e; exact HL.out rfl), 0, rfl⟩

end Go.Proofs.YtdiljpdohmeceaaGreat.haystacklaw24

/- haystacklaw24's helpers: roomy, stands, spoil. -/
namespace Go.Proofs.YtdiljpdohmeceaaGreat.haystacklaw24
open Go.RowKit H

theorem info_u8 : (Tryz.prog.info? 5).map (fun i => (i.zero, i.size, i.bytes)) = some (some (.int .u8 0), 1, 1) := by kernel_rfl

set_option maxHeartbeats 2000000 in
theorem roomy_any (A : Option Addr) (n c : Nat) (xs : List Int) (w : World) (hn : xs.length = n) (h0 : Rd w A (iv .u8 xs)) (hnil : A = none → c = 0) (hb : xs.length ≤ 140737488351232) :
    Calls Tryz.prog 57 #[.slice A n c] w (RetOwn 5 .u8 w (xs ++ [171])) := by
  subst hn
  have H0 := As.mk h0
  have HN := As.mk hnil
  clear h0 hnil
  go_enter Tryz.func57, Tryz.ntmps57
  go_wp2_with (first
    | (at_builtin; refine wpList_app rfl (.tmp 3) (.tmp 4) 24 rfl 5 (.int .u8 0) 1 1 Tryz.underlying24 info_u8 rfl (by decide) (.slice (some ⟨w.heap.size, 0, none⟩) 0 0) 0 [] rfl (own_new w [] _ (Nat.zero_le _)) A xs.length c (iv .u8 xs) rfl (by simp [iv]) (((Kp.refl [] w).alloc _).rd_new H0.out (by simp)) HN.out (iv_one _ _) (by omega) (by omega) ?_; intro v1 w1 o1 k1 a1 _; have O1 : As (w1.ownsRow 0 5 1 v1 xs.length (iv .u8 xs)) := ⟨by simpa using o1⟩; have K1 := As.mk k1; have A1 := As.mk a1; clear o1 k1 a1)
    | (at_builtin; refine wpList_app rfl (.tmp 5) (.tmp 6) 24 rfl 5 (.int .u8 0) 1 1 Tryz.underlying24 info_u8 rfl (by decide) v1 xs.length (iv .u8 xs) rfl (O1.out.alloc _) (some ⟨w1.heap.size, 0, none⟩) 1 1 [.int .u8 171] rfl rfl (rd_one _ _ _) (by simp) (by simp [Value.oneCell']) (by omega) (by omega) ?_; intro v2 w2 o2 k2 a2 _; have O2 := As.mk o2; have K2 := As.mk k2; have A2 := As.mk a2; clear o2 k2 a2)
    | (at_builtin; refine wpList_app rfl (.tmp 7) (.tmp 8) 24 rfl 5 (.int .u8 0) 1 1 Tryz.underlying24 info_u8 rfl (by decide) v2 (xs.length + 1) (iv .u8 xs ++ [.int .u8 171]) rfl (O2.out.alloc _) (some ⟨w2.heap.size, 0, none⟩) 1 1 [.int .u8 171] rfl rfl (rd_one _ _ _) (by simp) (by simp [Value.oneCell']) (by omega) (by omega) ?_; intro v3 w3 o3 k3 a3 _; obtain ⟨g, cap, rfl, hc1, hc2⟩ := own_form o3 (by omega); have O3 := As.mk o3; have K3 := As.mk k3; have A3 := As.mk a3; clear o3 k3 a3))
  go_ret
  have HK1 : Kp [] w w1 := ((Kp.refl [] w).alloc _).trans K1.out (by simp [Value.ownBlock])
  have lo1 : ∀ k, v1.ownBlock = some k → w.heap.size ≤ k := A1.out.ge (by simp) (by simp [Value.ownBlock])
  have HK2 : Kp [] w w2 := (HK1.alloc _).row K2.out (fun x hx => .inr (lo1 x hx))
  have lo2 : ∀ k, v2.ownBlock = some k → w.heap.size ≤ k := A2.out.ge (by have := HK1.size; simp; omega) lo1
  have HK3 : Kp [] w w3 := (HK2.alloc _).row K3.out (fun x hx => .inr (lo2 x hx))
  have lo3 := A3.out.ge (by have := HK2.size; simp; omega) lo2
  have e : (iv .u8 xs ++ [Value.int .u8 171] ++ [Value.int .u8 171]).take (xs.length + 1) = iv .u8 (xs ++ [171]) := by
    rw [List.take_left' (by simp [iv])]
    simp [iv]
  have O := own_take O3.out rfl (m := xs.length + 1) (by omega)
  rw [e] at O
  exact ⟨_, rfl, ⟨by simpa using O, lo3⟩, HK3⟩


theorem stands_split {zs ys : List Int} (hl : zs.length = ys.length + 1) (he : zs.take ys.length = ys) : zs = ys ++ [zs[ys.length]] := by
  have := (List.take_succ_eq_append_getElem (l := zs) (i := ys.length) (by omega)).symm
  rw [he, List.take_of_length_le (by omega)] at this
  exact this.symm

set_option maxHeartbeats 2000000 in
theorem stands_any (A0 A1 : Option Addr) (n0 c0 n1 c1 : Nat) (zs ys : List Int) (w : World) (l0 : zs.length = n0) (l1 : ys.length = n1) (h0 : Rd w A0 (iv .u8 zs)) (h1 : Rd w A1 (iv .u8 ys))
    (hc : n0 ≤ c0) (hm : zs.length ≤ 4611686018427387904) (hm1 : ys.length ≤ 4611686018427387904) :
    Calls Tryz.prog 102 #[.slice A0 n0 c0, .slice A1 n1 c1] w fun e w' => e = .returned (.bool (decide (zs = ys ++ [171]))) ∧ ∃ n, w' = w.drewN n := by
  subst l0 l1
  have H0 := As.mk h0
  have H1 := As.mk h1
  clear h0 h1
  by_cases hl : zs.length = ys.length + 1
  · have b1 : ((zs.length : Int) == (ys.length : Int) + 1) = true := by rw [beq_iff_eq]; omega
    have hlt : ys.length < zs.length := by omega
    obtain ⟨a0, rfl, d0⟩ := H0.out.int ys.length hlt
    have HL := As.mk hl
    clear hl
    have HS := As.mk (same_any (some a0) A1 ys.length c0 ys.length c1 (zs.take ys.length) ys w (by rw [List.length_take]; omega) rfl (by rw [← iv_take]; exact H0.out.take _) H1.out (by rw [List.length_take]; omega))
    by_cases he : zs.take ys.length = ys
    · by_cases hz : zs[ys.length] = 171
      · have b3 : (zs[ys.length] == 171) = true := by simpa using hz
        have e : decide (zs = ys ++ [171]) = true := by rw [decide_eq_true_eq, stands_split HL.out he, hz]
        have HE := As.mk he
        have HZ := As.mk hz
        have HR := As.mk e
        clear he hz e
        go_enter Tryz.func102, Tryz.ntmps102
        go_wp2_with (go_at_call 14; refine HS.out.mono ?_; rintro e w' ⟨rfl, n, rfl⟩; rw [decide_eq_true HE.out])
        go_ret
        exact ⟨ret_bool HR.out.symm, _, rfl⟩
      · have b3 : (zs[ys.length] == 171) = false := by simpa using hz
        have e : decide (zs = ys ++ [171]) = false := by
          rw [decide_eq_false_iff_not, stands_split HL.out he]
          intro h
          exact hz (by simpa using h)
        have HE := As.mk he
        have HZ := As.mk hz
        have HR := As.mk e
        clear he hz e
        go_enter Tryz.func102, Tryz.ntmps102
        go_wp2_with (go_at_call 14; refine HS.out.mono ?_; rintro e w' ⟨rfl, n, rfl⟩; rw [decide_eq_true HE.out])
        go_ret
        exact ⟨ret_bool HR.out.symm, _, rfl⟩
    · have e : decide (zs = ys ++ [171]) = false := by
        rw [decide_eq_false_iff_not]
        rintro rfl
        exact he (by simp)
      have HE := As.mk he
      have HR := As.mk e
      clear he e
      go_enter Tryz.func102, Tryz.ntmps102
      go_wp2_with (go_at_call 14; refine HS.out.mono ?_; rintro e w' ⟨rfl, n, rfl⟩; rw [decide_eq_false HE.out])
      go_ret
      exact ⟨ret_bool HR.out.symm, _, rfl⟩
  · have b1 : ((zs.length : Int) == (ys.length : Int) + 1) = false := by rw [beq_eq_false_iff_ne]; omega
    have e : decide (zs = ys ++ [171]) = false := by
      rw [decide_eq_false_iff_not]
      rintro rfl
      exact hl (by simp)
    have HL := As.mk hl
    have HR := As.mk e
    clear hl e
    go_enter Tryz.func102, Tryz.ntmps102
    go_wp2
    go_ret
    exact ⟨ret_bool HR.out.symm, 0, rfl⟩


set_option maxHeartbeats 2000000 in
theorem spoil_any (v : Value) (n : Nat) (vs : List Value) (w : World) (ho : w.ownsRow 0 5 1 v n vs) (hb : n ≤ 140737488351232) :
    Calls Tryz.prog 58 #[v] w fun e w' => e = .returned (.tuple #[]) ∧ Kp v.ownBlock.toList w w' := by
  have HO := As.mk ho
  clear ho
  go_enter Tryz.func58, Tryz.ntmps58
  go_wp2_with (at_builtin; refine wpList_app rfl (.tmp 4) (.tmp 5) 24 rfl 5 (.int .u8 0) 1 1 Tryz.underlying24 info_u8 rfl (by decide) v n vs rfl (HO.out.alloc _) (some ⟨w.heap.size, 0, none⟩) 1 1 [.int .u8 99] rfl rfl (rd_one _ _ _) (by simp) (by simp [Value.oneCell']) (by omega) (by omega) ?_; intro v1 w1 o1 k1 a1 _; obtain ⟨g, cap, rfl, hc1, hc2⟩ := own_form o1 (by omega); have O1 := As.mk o1; have K1 := As.mk k1; have A1 := As.mk a1; clear o1 k1 a1)
  have HK : As (Kp v.ownBlock.toList w w1) := ⟨((Kp.refl _ w).alloc _).row K1.out (fun x hx => .inl (by simpa using hx))⟩
  have HG : As (g ∈ v.ownBlock.toList ∨ w.heap.size ≤ g) := by
    constructor
    rcases A1.out with h | ⟨k, h, hk⟩
    · left; rw [← h]; simp [Value.ownBlock]
    · right
      have : g = k := by simpa [Value.ownBlock] using h
      simp at hk
      omega
  clear K1 A1
  go_loopw [3] (fun i wr => ∃ k : Nat, i = .int .i64 k ∧ k ≤ n + 1 ∧ As (∃ cs, wr.ownsRow 0 5 1 (.slice (some ⟨g, 0, none⟩) (n + 1) cap) (n + 1) cs) ∧ As (Kp v.ownBlock.toList w wr)) (fun i _ => n + 1 - (intOf i).toNat)
  case atStart => exact ⟨0, rfl, by omega, ⟨_, O1.out⟩, HK⟩
  case round =>
    obtain ⟨k, rfl, hk, ⟨cs, hcs⟩, hkp⟩ := hrel
    by_cases hlt : k < n + 1
    · obtain ⟨⟨x, hx⟩, hf, hst⟩ := own_store hcs k hlt (.int .u8 98)
      have HC := As.mk hst
      clear hcs hst
      go_wp2
      go_roundw
      case rel => exact ⟨k + 1, by go_num, by omega, ⟨_, HC.out⟩, ⟨hkp.out.setCell HG.out _⟩⟩
      case measure => simp [intOf]; omega
    · go_wp2
      go_end0
      exact ⟨rfl, hkp.out⟩

end Go.Proofs.YtdiljpdohmeceaaGreat.haystacklaw24

/- haystacklaw24.ints answers whether two rows of numbers are one. -/
namespace Go.Proofs.YtdiljpdohmeceaaGreat.haystacklaw24
open Go.RowKit H

end Go.Proofs.YtdiljpdohmeceaaGreat.haystacklaw24
