/- What a Reader (type octet.Reader) holds. -/
import Derived.Test.YtlknlpiiogmfbaaHeap
import Derived.Test.YtlknlpiiogmfbaaOctet
namespace Go.Proofs.Ytlknlpiiogmfbaa.reader
open Go.RowKit H O

/-- The Reader in block b: what is left of its bytes (in block g), or nothing: it erred. -/
def Rdr (w : World) (b : Nat) (g : Option Nat) (s : Option (List Int)) : Prop :=
  ∃ A c, w.heap[b]? = some (.cells #[.slice A (left s).length c, .bool s.isNone] 105 (0, 0)) ∧ A.map Addr.block = g ∧ Rd w A (iv .u8 (left s)) ∧ (left s).length ≤ c ∧ c ≤ 9223372036854775807 ∧
    (A = none → c = 0) ∧ g ≠ some b ∧ Wf (left s)
/-- Behind a call of a Reader's. -/
def RdrPost (b : Nat) (g : Option Nat) (val : Value) (s : Option (List Int)) (w : World) (e : Ending) (w' : World) : Prop :=
  e = .returned val ∧ ∃ g', Rdr w' b g' s ∧ (g' = g ∨ g' = none) ∧ Kp [b] w w'
/-- A new Reader. -/
def NewRdr (xs : List Int) (w : World) (e : Ending) (w' : World) : Prop :=
  ∃ b g, e = .returned (.pointer (some ⟨b, 0, none⟩)) ∧ Rdr w' b g (some xs) ∧ w.heap.size ≤ b ∧ (∀ x, g = some x → w.heap.size ≤ x ∧ x < w'.heap.size) ∧ Kp [] w w'

theorem Rdr.kp {w w1 : World} {b : Nat} {g : Option Nat} {s : Option (List Int)} {S : List Nat} (h : Rdr w b g s) (k : Kp S w w1) (hb : b ∉ S) (hg : ∀ x, g = some x → x ∉ S) : Rdr w1 b g s := by
  obtain ⟨A, c, h1, rfl, h3, h4, h5, h6, h7, h8⟩ := h
  exact ⟨A, c, k.blk h1 hb, rfl, k.rd h3 (fun a ha => hg _ (by simp [ha])), h4, h5, h6, h7, h8⟩
theorem Rdr.lt {w : World} {b : Nat} {g : Option Nat} {s : Option (List Int)} (h : Rdr w b g s) : b < w.heap.size := by
  obtain ⟨A, c, h1, _⟩ := h
  exact lt_of_block h1

theorem stNum_none {s : Option (List Int)} (h : dec (left s) = none) : stNum s = (0, none) := by
  cases s with
  | none => rfl
  | some l => simp only [left, Option.getD_some] at h; simp [stNum, h]
theorem stNum_some {s : Option (List Int)} {v : Nat} {r : List Int} (h : dec (left s) = some (v, r)) : stNum s = (v, some r) := by
  cases s with
  | none => simp [left, dec, decF] at h
  | some l => simp only [left, Option.getD_some] at h; simp [stNum, h]
theorem num_fail {b : Nat} {g : Option Nat} {s : Option (List Int)} {xs : List Int} {w w1 : World} (hx : xs = left s) (hd : decF 0 0 xs = none) (h : RdrPost b g (.tuple #[]) none w (.returned (.tuple #[])) w1) :
    RdrPost b g (.int .i64 ((stNum s).1 : Int)) (stNum s).2 w (.returned (.int .i64 0)) w1 := by
  subst hx
  rw [stNum_none hd]
  exact ⟨rfl, h.2⟩

theorem num_ok {b k c c' u1 : Nat} {a a' : Addr} {s : Option (List Int)} {xs : List Int} {w : World} (hb : w.heap[b]? = some (.cells #[.slice (some a) xs.length c, .bool s.isNone] 105 (0, 0)))
    (hR : Rdr w b (some a.block) s) (hx : xs = left s) (hd : decF 0 0 xs = some (u1, xs.drop (k + 1))) (hr : Rd w (some a') (iv .u8 (xs.drop (k + 1)))) (ha : a'.block = a.block) (hl : xs.length - (k + 1) ≤ c') (hc : c' ≤ 9223372036854775807) :
    RdrPost b (some a.block) (.int .i64 ((stNum s).1 : Int)) (stNum s).2 w (.returned (.int .i64 (u1 : Int))) (w.setCell ⟨b, 0, none⟩ (.slice (some a') (xs.length - (k + 1)) c')) := by
  obtain ⟨_, _, _, _, _, _, _, _, hne, hw⟩ := hR
  subst hx
  rw [stNum_some hd]
  have hs : s.isNone = false := by
    cases s with
    | none => simp [left, decF] at hd
    | some l => rfl
  rw [hs] at hb
  have hk := (Kp.refl [b] w).setCell (a := ⟨b, 0, none⟩) (.inl (by simp)) (.slice (some a') ((left s).length - (k + 1)) c')
  refine ⟨rfl, some a.block, ⟨some a', c', ?_, by simp [ha], ?_, by simpa [left] using hl, hc, by simp, hne, hw.drop _⟩, .inl rfl, hk⟩
  · have := heap_setCell_same w b 0 _ _ (.slice (some a') ((left s).length - (k + 1)) c') hb
    simpa [left] using this
  · exact hk.rd hr (fun x hx => by cases hx; rw [ha]; intro hm; exact hne (by simpa using hm))

theorem left_le {s : Option (List Int)} {m : Nat} (h : (left s).length ≤ m) : (left (stNum s).2).length ≤ m := by
  cases s with
  | none => simpa [stNum] using h
  | some l =>
    simp only [left, Option.getD_some] at h
    cases hd : dec l with
    | none => simp [stNum, hd, left]
    | some p =>
      obtain ⟨v, r⟩ := p
      obtain ⟨q, e, _⟩ := dec_suffix hd
      simp only [stNum, hd, left, Option.getD_some]
      have := congrArg List.length e
      simp only [List.length_append] at this
      omega

/-- Nothing went wrong, and nothing is left. -/
def whole (s : Option (List Int)) : Bool := s == some []
theorem left_map (s : Option (List Int)) (n : Nat) : left (s.map (·.drop n)) = (left s).drop n := by cases s <;> simp [left]
theorem Rdr.cut {b n c c' : Nat} {a a' : Addr} {s : Option (List Int)} {w : World} (hb : w.heap[b]? = some (.cells #[.slice (some a) (left s).length c, .bool s.isNone] 105 (0, 0)))
    (hne : some a.block ≠ some b) (hw : Wf (left s)) (hr : Rd w (some a') (iv .u8 ((left s).drop n))) (ha : a'.block = a.block) (hl : (left s).length - n ≤ c') (hc : c' ≤ 9223372036854775807) :
    Rdr (w.setCell ⟨b, 0, none⟩ (.slice (some a') ((left s).length - n) c')) b (some a.block) (s.map (·.drop n)) ∧ Kp [b] w (w.setCell ⟨b, 0, none⟩ (.slice (some a') ((left s).length - n) c')) := by
  have hk := (Kp.refl [b] w).setCell (a := ⟨b, 0, none⟩) (.inl (by simp)) (.slice (some a') ((left s).length - n) c')
  refine ⟨⟨some a', c', ?_, by simp [ha], ?_, by rw [left_map]; simpa using hl, hc, by simp, hne, by rw [left_map]; exact hw.drop _⟩, hk⟩
  · have := heap_setCell_same w b 0 _ _ (.slice (some a') ((left s).length - n) c') hb
    rw [left_map]
    simpa using this
  · rw [left_map]
    exact hk.rd hr (fun x hx => by cases hx; rw [ha]; intro hm; exact hne (by simpa using hm))

/-- Behind Raw: the bytes that came, in new memory; what the Reader holds. -/
def RawPost (b : Nat) (g : Option Nat) (r : List Int × Option (List Int)) (w : World) (e : Ending) (w' : World) : Prop :=
  ∃ v, e = .returned v ∧ Own 5 .u8 w' w.heap.size v r.1 ∧ ∃ g', Rdr w' b g' r.2 ∧ (g' = g ∨ g' = none) ∧ Kp [b] w w'

theorem stRaw_bad {s : Option (List Int)} {n : Int} (h : n < 0 ∨ ((left s).length : Int) < n) : stRaw n s = ([], none) := by
  cases s with
  | none => rfl
  | some l => simp only [stRaw]; rw [if_pos (by simpa [left] using h)]
theorem stRaw_good {s : Option (List Int)} {m : Nat} (h : m ≤ (left s).length) : stRaw (m : Int) s = ((left s).take m, s.map (·.drop m)) := by
  cases s with
  | none => simp [stRaw, left]
  | some l => simp only [stRaw]; rw [if_neg (by simp [left] at h ⊢; omega)]; simp [left]

theorem raw_ok {b m c c' len : Nat} {a a' : Addr} {s : Option (List Int)} {w w1 : World} {v : Value} (hR : Rdr w b (some a.block) s) (hl : (left s).length = len)
    (hb1 : w1.heap[b]? = some (.cells #[.slice (some a) len c, .bool s.isNone] 105 (0, 0))) (ho : Own 5 .u8 w1 w.heap.size v ((left s).take m)) (hk : Kp [] w w1)
    (hr : Rd w (some a') (iv .u8 ((left s).drop m))) (ha : a'.block = a.block) (hle : len - m ≤ c') (hc : c' ≤ 9223372036854775807) :
    RawPost b (some a.block) ((left s).take m, s.map (·.drop m)) w (.returned v) (w1.setCell ⟨b, 0, none⟩ (.slice (some a') (len - m) c')) := by
  have hlt := hR.lt
  obtain ⟨_, _, _, _, _, _, _, _, hne, hw⟩ := hR
  subst hl
  obtain ⟨h1, h2⟩ := Rdr.cut (n := m) (a' := a') (c' := c') hb1 hne hw (hk.rd hr (fun _ _ => by simp)) ha hle hc
  refine ⟨v, rfl, ho.kp h2 ?_, some a.block, h1, .inl rfl, (hk.mono (by simp)).trans h2 (fun x hx => .inl hx)⟩
  intro g hg
  have := ho.2 g hg
  simp
  omega

theorem raw_nil {b : Nat} {s : Option (List Int)} {w w1 : World} {v : Value} (hR : Rdr w b none s) (hl : (left s).length = 0)
    (hb1 : w1.heap[b]? = some (.cells #[.slice none 0 0, .bool s.isNone] 105 (0, 0))) (ho : Own 5 .u8 w1 w.heap.size v ((left s).take 0)) (hk : Kp [] w w1) :
    RawPost b none ((left s).take 0, s.map (·.drop 0)) w (.returned v) (w1.setCell ⟨b, 0, none⟩ (.slice none 0 0)) := by
  have hlt := hR.lt
  have e : s.map (·.drop 0) = s := by cases s <;> simp
  have e0 : left s = [] := List.eq_nil_of_length_eq_zero hl
  have h2 := (Kp.refl [b] w1).setCell (a := ⟨b, 0, none⟩) (.inl (by simp)) (.slice none 0 0)
  rw [e]
  refine ⟨v, rfl, ho.kp h2 ?_, none, ⟨none, 0, ?_, rfl, by rw [e0]; exact Rd.nil _ _, by show (left s).length ≤ 0; omega, by omega, fun _ => rfl, by simp, by rw [e0]; exact Wf.nil⟩, .inl rfl, (hk.mono (by simp)).trans h2 (fun x hx => .inl hx)⟩
  · intro g hg
    have := ho.2 g hg
    simp
    omega
  · have := heap_setCell_same w1 b 0 _ _ (.slice none 0 0) hb1
    rw [hl]
    simpa using this


/-- Bad's two stores. -/
theorem Rdr.bad {w : World} {b : Nat} {g : Option Nat} {cs : Array Value} {x y : Value} (hcs : cs = #[x, y]) (hb : w.heap[b]? = some (.cells cs 105 (0, 0))) :
    RdrPost b g (.tuple #[]) none w (.returned (.tuple #[])) ((w.setCell ⟨b, 0, none⟩ (.slice none 0 0)).setCell ⟨b, 1, none⟩ (.bool true)) ∧
    RdrPost b g (.tuple #[]) none w (.returned (.tuple #[])) ((w.setCell ⟨b, 1, none⟩ (.bool true)).setCell ⟨b, 0, none⟩ (.slice none 0 0)) := by
  subst hcs
  refine ⟨⟨rfl, none, ⟨none, 0, ?_, rfl, Rd.nil _ _, Nat.le_refl _, by omega, fun _ => rfl, by simp, Wf.nil⟩, .inr rfl, ?_⟩, ⟨rfl, none, ⟨none, 0, ?_, rfl, Rd.nil _ _, Nat.le_refl _, by omega, fun _ => rfl, by simp, Wf.nil⟩, .inr rfl, ?_⟩⟩
  · have h1 := heap_setCell_same w b 0 _ _ (.slice none 0 0) hb
    exact heap_setCell_same _ b 1 _ _ (.bool true) h1
  · exact ((Kp.refl [b] w).setCell (.inl (by simp)) _).setCell (.inl (by simp)) _
  · have h1 := heap_setCell_same w b 1 _ _ (.bool true) hb
    exact heap_setCell_same _ b 0 _ _ (.slice none 0 0) h1
  · exact ((Kp.refl [b] w).setCell (.inl (by simp)) _).setCell (.inl (by simp)) _
theorem RdrPost.none_of {b : Nat} {g g' : Option Nat} {w w1 w2 : World} {v u : Value} (h : RdrPost b g' v none w1 (.returned v) w2) (hg : g' = g ∨ g' = none) (hk : Kp [b] w w1) : RdrPost b g u none w (.returned u) w2 := by
  obtain ⟨_, g2, h1, h2, h3⟩ := h
  refine ⟨rfl, g2, h1, ?_, hk.trans h3 (fun x hx => .inl hx)⟩
  rcases h2 with rfl | rfl
  · exact hg
  · exact .inr rfl

end Go.Proofs.Ytlknlpiiogmfbaa.reader
