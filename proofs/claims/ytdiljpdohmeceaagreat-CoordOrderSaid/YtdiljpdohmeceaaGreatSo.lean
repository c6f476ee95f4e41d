/- MERGED: SoP SoA SoB SoC SoQ SoD SoE SoF SoG SoH -/
import Derived.Sort.LotA
import Derived.Test.YtdiljpdohmeceaaGreatBone
import Derived.Test.YtdiljpdohmeceaaGreatProg
import Derived.Shelf.SlSortCmp.KitK
import Derived.Sort.WalkB2
import Derived.Sort.WalkB12
import Derived.Deep.LoopGhost
import Derived.Deep.Cut
import Derived.Outline
import Derived.Deep.CutRange
import Derived.Sort.WalkA
import Derived.Test.YtdiljpdohmeceaaGreatBasw
import Derived.Lib.Bytealg
import Derived.Deep.RegionHeld3
/- Rows sorted in place, plain words: rotating a row, joining two sorted parts of it. No program in sight. -/
namespace Go.Proofs.YtdiljpdohmeceaaGreat.so
open Go.Sort
variable {α : Type} [Inhabited α] {lt : α → α → Bool}

/-- two parts of a row, of one length, have changed places -/
structure Swapped (a b n : Nat) (d f : Array α) : Prop where
  size : f.size = d.size
  low : ∀ x, a ≤ x → x < a + n → f[x]! = d[x - a + b]!
  high : ∀ x, b ≤ x → x < b + n → f[x]! = d[x - b + a]!
  rest : ∀ x, (x < a ∨ a + n ≤ x) → (x < b ∨ b + n ≤ x) → f[x]! = d[x]!
theorem Swapped.zero (a b : Nat) (d : Array α) : Swapped a b 0 d d := ⟨rfl, fun x _ _ => by omega, fun x _ _ => by omega, fun _ _ _ => rfl⟩
theorem Swapped.step {a b n : Nat} {d f : Array α} (h : Swapped a b n d f) (hab : a + n < b) (hb : b + n < d.size) : Swapped a b (n + 1) d (swp f (a + n) (b + n)) := by
  have hs := h.size
  have g := swp_get f (show a + n < f.size by omega) (show b + n < f.size by omega)
  refine ⟨by rw [swp_size, hs], fun x h1 h2 => ?_, fun x h1 h2 => ?_, fun x h1 h2 => ?_⟩
  · rw [g, if_neg (by omega)]
    by_cases e : x = a + n
    · subst e
      rw [if_pos rfl, h.rest _ (by omega) (by omega)]
      congr 1
      omega
    · rw [if_neg e, h.low x h1 (by omega)]
  · rw [g]
    by_cases e : x = b + n
    · subst e
      rw [if_pos rfl, h.rest _ (by omega) (by omega)]
      congr 1
      omega
    · rw [if_neg e, if_neg (by omega), h.high x h1 (by omega)]
  · rw [g, if_neg (by omega), if_neg (by omega), h.rest x (by omega) (by omega)]
theorem Swapped.perm {a b n : Nat} {d f : Array α} (lo hi : Nat) (hab : a + n ≤ b) (hlo : lo ≤ a) (hhi : b + n ≤ hi) (hd : hi ≤ d.size) (h : Swapped a b n d f) : PermIn lo hi d f := by
  induction n generalizing f with
  | zero =>
    have e : f = d := by
      apply Array.ext h.size
      intro i h1 h2
      have := h.rest i (by omega) (by omega)
      rwa [getElem!_pos f i h1, getElem!_pos d i h2] at this
    rw [e]
    exact permIn_refl d lo hi
  | succ n ih =>
    have hs := h.size
    -- the row one exchange earlier
    have h0 : Swapped a b n d (swp f (a + n) (b + n)) := by
      have g := swp_get f (show a + n < f.size by omega) (show b + n < f.size by omega)
      refine ⟨by rw [swp_size, hs], fun x h1 h2 => ?_, fun x h1 h2 => ?_, fun x h1 h2 => ?_⟩
      · rw [g, if_neg (by omega), if_neg (by omega), h.low x h1 (by omega)]
      · rw [g, if_neg (by omega), if_neg (by omega), h.high x h1 (by omega)]
      · rw [g]
        by_cases e : x = b + n
        · subst e
          rw [if_pos rfl, h.low _ (by omega) (by omega)]
          congr 1
          omega
        · rw [if_neg e]
          by_cases e2 : x = a + n
          · subst e2
            rw [if_pos rfl, h.high _ (by omega) (by omega)]
            congr 1
            omega
          · rw [if_neg e2, h.rest x (by omega) (by omega)]
    have e : swp (swp f (a + n) (b + n)) (a + n) (b + n) = f := by
      apply Array.ext (by rw [swp_size, swp_size])
      intro i h1 h2
      have h3 : i < (swp f (a + n) (b + n)).size := by rw [swp_size] at h1; exact h1
      have g1 := swp_get (swp f (a + n) (b + n)) (show a + n < _ by rw [swp_size]; omega) (show b + n < _ by rw [swp_size]; omega) i
      have g := swp_get f (show a + n < f.size by omega) (show b + n < f.size by omega)
      have : (swp (swp f (a + n) (b + n)) (a + n) (b + n))[i]! = f[i]! := by
        rw [g1]
        by_cases e1 : i = b + n
        · rw [if_pos e1, g, if_neg (by omega), if_pos rfl, e1]
        · rw [if_neg e1]
          by_cases e2 : i = a + n
          · rw [if_pos e2, g, if_pos rfl, e2]
          · rw [if_neg e2, g, if_neg e1, if_neg e2]
      rwa [getElem!_pos _ i h1, getElem!_pos f i h2] at this
    have hp := swp_permIn (swp f (a + n) (b + n)) lo hi (a + n) (b + n) (by omega) (by omega) (by omega) (by omega) (by rw [swp_size, hs]; exact hd)
    rw [e] at hp
    exact permIn_trans _ _ _ lo hi (ih (by omega) (by omega) h0) hp

/-- a row's parts a .. m and m .. b have changed places -/
structure Rot (a m b : Nat) (d f : Array α) : Prop where
  size : f.size = d.size
  low : ∀ x, a ≤ x → x < a + (b - m) → f[x]! = d[x + (m - a)]!
  high : ∀ x, a + (b - m) ≤ x → x < b → f[x]! = d[x - (b - m)]!
  rest : ∀ x, (x < a ∨ b ≤ x) → f[x]! = d[x]!
theorem Rot.last {m i : Nat} {d f : Array α} (him : i ≤ m) (h : Swapped (m - i) m i d f) : Rot (m - i) m (m + i) d f := by
  refine ⟨h.size, fun x h1 h2 => ?_, fun x h1 h2 => ?_, fun x h1 => ?_⟩
  · rw [h.low x h1 (by omega)]; congr 1; omega
  · rw [h.high x (by omega) (by omega)]; congr 1; omega
  · exact h.rest x (by omega) (by omega)
theorem Rot.more {m i j : Nat} {d c f : Array α} (him : i ≤ m) (hji : j < i) (h : Swapped (m - i) m j d c) (r : Rot (m - (i - j)) m (m + j) c f) : Rot (m - i) m (m + j) d f := by
  refine ⟨r.size.trans h.size, fun x h1 h2 => ?_, fun x h1 h2 => ?_, fun x h1 => ?_⟩
  · rw [r.rest x (by omega), h.low x h1 (by omega)]; congr 1; omega
  · by_cases e : x < m - (i - j) + (m + j - m)
    · rw [r.low x (by omega) e]
      rw [h.high _ (by omega) (by omega)]
      congr 1; omega
    · rw [r.high x (by omega) h2, h.rest _ (by omega) (by omega)]
  · rw [r.rest x (by omega), h.rest x (by omega) (by omega)]
theorem Rot.less {m i j : Nat} {d c f : Array α} (him : i ≤ m) (hij : i < j) (h : Swapped (m - i) (m + j - i) i d c) (r : Rot (m - i) m (m + (j - i)) c f) : Rot (m - i) m (m + j) d f := by
  refine ⟨r.size.trans h.size, fun x h1 h2 => ?_, fun x h1 h2 => ?_, fun x h1 => ?_⟩
  · by_cases e : x < m - i + (m + (j - i) - m)
    · rw [r.low x h1 e, h.rest _ (by omega) (by omega)]
    · by_cases e2 : x < m + (j - i)
      · rw [r.high x (by omega) e2, h.low _ (by omega) (by omega)]; congr 1; omega
      · omega
  · by_cases e2 : x < m + (j - i)
    · by_cases e : x < m - i + (m + (j - i) - m)
      · omega
      · rw [r.high x (by omega) e2, h.low _ (by omega) (by omega)]; congr 1; omega
    · rw [r.rest x (by omega), h.high x (by omega) (by omega)]; congr 1; omega
  · rw [r.rest x (by omega), h.rest x (by omega) (by omega)]

theorem SortedIn.part {a b a' b' : Nat} {d : Array α} (h : SortedIn lt a b d) (ha : a ≤ a') (hb : b' ≤ b) : SortedIn lt a' b' d := fun i j h1 h2 h3 => h i j (by omega) h2 (by omega)
theorem SortedIn.out {a b lo hi : Nat} {d f : Array α} (h : SortedIn lt a b d) (hp : PermIn lo hi d f) (ho : b ≤ lo ∨ hi ≤ a) : SortedIn lt a b f := fun i j h1 h2 h3 => by
  rw [hp.2.1 i (by omega), hp.2.1 j (by omega)]
  exact h i j h1 h2 h3
theorem sorted_one (a b : Nat) (d : Array α) (h : b ≤ a + 1) : SortedIn lt a b d := fun i j h1 h2 h3 => by omega

/-- two sorted parts, and the place where to part: what is to be rotated -/
structure Cutp (lt : α → α → Bool) (a m b mid st en : Nat) (d : Array α) : Prop where
  am : a ≤ st ∧ st ≤ m
  mb : m ≤ en ∧ en ≤ b
  sum : st + en = mid + m
  mid : a < mid ∧ mid < b
  le1 : ∀ x y, a ≤ x → x < st → en ≤ y → y < b → lt d[y]! d[x]! = false
  le2 : ∀ x y, st ≤ x → x < m → m ≤ y → y < en → lt d[y]! d[x]! = true
/-- rotated, the lower half is nowhere behind the upper one, and each is two sorted parts -/
structure Halves (lt : α → α → Bool) (a b mid st en : Nat) (f : Array α) : Prop where
  s1 : SortedIn lt a st f
  s2 : SortedIn lt st mid f
  s3 : SortedIn lt mid en f
  s4 : SortedIn lt en b f
  le : ∀ x y, a ≤ x → x < mid → mid ≤ y → y < b → lt f[y]! f[x]! = false
theorem Cutp.halves (hO : SWO lt) {a m b mid st en : Nat} {d f : Array α} (h : Cutp lt a m b mid st en d) (s1 : SortedIn lt a m d) (s2 : SortedIn lt m b d) (r : Rot st m en d f) : Halves lt a b mid st en f := by
  have h1 := h.am
  have h2 := h.mb
  have h3 := h.sum
  have h4 := h.mid
  have fa : ∀ x, x < st → f[x]! = d[x]! := fun x hx => r.rest x (by omega)
  have fd : ∀ x, en ≤ x → f[x]! = d[x]! := fun x hx => r.rest x (by omega)
  have fb : ∀ x, st ≤ x → x < mid → f[x]! = d[x + (m - st)]! := fun x hx hy => r.low x (by omega) (by omega)
  have fc : ∀ x, mid ≤ x → x < en → f[x]! = d[x - (en - m)]! := fun x hx hy => r.high x (by omega) (by omega)
  refine ⟨fun i j p q s => ?_, fun i j p q s => ?_, fun i j p q s => ?_, fun i j p q s => ?_, fun x y p q s t => ?_⟩
  · rw [fa i (by omega), fa j s]; exact s1 i j p q (by omega)
  · rw [fb i p (by omega), fb j (by omega) s]; exact s2 _ _ (by omega) (by omega) (by omega)
  · rw [fc i p (by omega), fc j (by omega) s]; exact s1 _ _ (by omega) (by omega) (by omega)
  · rw [fd i p, fd j (by omega)]; exact s2 _ _ (by omega) q s
  · by_cases e1 : x < st
    · rw [fa x e1]
      by_cases e2 : y < en
      · rw [fc y s e2]; exact s1 _ _ p (by omega) (by omega)
      · rw [fd y (by omega)]; exact h.le1 x y p e1 (by omega) t
    · rw [fb x (by omega) q]
      by_cases e2 : y < en
      · rw [fc y s e2]
        exact hO.asymmA (h.le2 (y - (en - m)) (x + (m - st)) (by omega) (by omega) (by omega) (by omega))
      · rw [fd y (by omega)]; exact s2 _ _ (by omega) (by omega) t
/-- both halves sorted: the whole is -/
theorem Halves.join {a b mid st en : Nat} {f f1 f2 : Array α} (h : Halves lt a b mid st en f) (hb : mid ≤ b) (hd : b ≤ f.size) (p1 : PermIn a mid f f1) (t1 : SortedIn lt a mid f1) (p2 : PermIn mid b f1 f2) (t2 : SortedIn lt mid b f2) : SortedIn lt a b f2 := by
  have hd1 : f1.size = f.size := p1.1
  intro i j h1 h2 h3
  by_cases e1 : j < mid
  · rw [p2.2.1 i (by omega), p2.2.1 j (by omega)]; exact t1 i j h1 h2 e1
  · by_cases e2 : mid ≤ i
    · exact t2 i j e2 h2 h3
    · -- across
      have q1 : ∀ x, a ≤ x → x < mid → ∀ y, mid ≤ y → y < b → lt f[y]! f1[x]! = false := fun x hx hx2 => by
        refine permIn_all f f1 a mid (fun v => ∀ y, mid ≤ y → y < b → lt f[y]! v = false) (by omega) p1 (fun x hx hx2 y hy hy2 => h.le x y hx hx2 hy hy2) x hx hx2
      have q2 : ∀ y, mid ≤ y → y < b → lt f2[y]! f1[i]! = false := fun y hy hy2 => by
        refine permIn_all f1 f2 mid b (fun v => lt v f1[i]! = false) (by omega) p2 (fun y hy hy2 => ?_) y hy hy2
        rw [p1.2.1 y (by omega)]
        exact q1 i h1 (by omega) y hy hy2
      rw [p2.2.1 i (by omega)]
      exact q2 j (by omega) h3

/-- where the first search ends: one element into a sorted row -/
theorem first_in (hO : SWO lt) {a b i : Nat} {d f : Array α} (hi : a < i ∧ i ≤ b) (s : SortedIn lt (a + 1) b d) (lo : ∀ x, a + 1 ≤ x → x < i → lt d[x]! d[a]! = true) (hi2 : ∀ x, i ≤ x → x < b → lt d[x]! d[a]! = false)
    (g1 : ∀ x, a ≤ x → x < i - 1 → f[x]! = d[x + 1]!) (g2 : f[i - 1]! = d[a]!) (g3 : ∀ x, i ≤ x → x < b → f[x]! = d[x]!) : SortedIn lt a b f := by
  intro p q h1 h2 h3
  by_cases e1 : p < i - 1
  · rw [g1 p h1 e1]
    by_cases e2 : q < i - 1
    · rw [g1 q (by omega) e2]; exact s _ _ (by omega) (by omega) (by omega)
    · by_cases e3 : q = i - 1
      · rw [e3, g2]; exact hO.asymmA (lo _ (by omega) (by omega))
      · rw [g3 q (by omega) h3]; exact s _ _ (by omega) (by omega) h3
  · by_cases e3 : p = i - 1
    · rw [e3, g2, g3 q (by omega) h3]; exact hi2 q (by omega) h3
    · rw [g3 p (by omega) (by omega), g3 q (by omega) h3]; exact s _ _ (by omega) h2 h3
/-- .. and the second: the last element into a sorted row -/
theorem last_in (hO : SWO lt) {a m i : Nat} {d f : Array α} (hi : a ≤ i ∧ i ≤ m) (s : SortedIn lt a m d) (lo : ∀ x, a ≤ x → x < i → lt d[m]! d[x]! = false) (hi2 : ∀ x, i ≤ x → x < m → lt d[m]! d[x]! = true)
    (g1 : ∀ x, a ≤ x → x < i → f[x]! = d[x]!) (g2 : f[i]! = d[m]!) (g3 : ∀ x, i < x → x ≤ m → f[x]! = d[x - 1]!) : SortedIn lt a (m + 1) f := by
  intro p q h1 h2 h3
  by_cases e1 : p < i
  · rw [g1 p h1 e1]
    by_cases e2 : q < i
    · rw [g1 q (by omega) e2]; exact s p q h1 h2 (by omega)
    · by_cases e3 : q = i
      · rw [e3, g2]; exact lo p h1 e1
      · rw [g3 q (by omega) (by omega)]; exact s _ _ h1 (by omega) (by omega)
  · by_cases e3 : p = i
    · rw [e3, g2, g3 q (by omega) (by omega)]; exact hO.asymmA (hi2 _ (by omega) (by omega))
    · rw [g3 p (by omega) (by omega), g3 q (by omega) (by omega)]; exact s _ _ (by omega) (by omega) (by omega)

/-- an element has moved up from a to a + n -/
structure Up (a n : Nat) (d f : Array α) : Prop where
  size : f.size = d.size
  mid : ∀ x, a ≤ x → x < a + n → f[x]! = d[x + 1]!
  at_ : f[a + n]! = d[a]!
  rest : ∀ x, (x < a ∨ a + n < x) → f[x]! = d[x]!
  perm : ∀ lo hi, lo ≤ a → a + n < hi → hi ≤ d.size → PermIn lo hi d f
theorem Up.zero (a : Nat) (d : Array α) : Up a 0 d d := ⟨rfl, fun x _ _ => by omega, rfl, fun _ _ => rfl, fun lo hi _ _ _ => permIn_refl d lo hi⟩
theorem Up.step {a n : Nat} {d f : Array α} (h : Up a n d f) (hn : a + n + 1 < d.size) : Up a (n + 1) d (swp f (a + n) (a + n + 1)) := by
  have hs := h.size
  have g := swp_get f (show a + n < f.size by omega) (show a + n + 1 < f.size by omega)
  refine ⟨by rw [swp_size, hs], fun x h1 h2 => ?_, ?_, fun x h1 => ?_, fun lo hi h1 h2 h3 => ?_⟩
  · rw [g, if_neg (by omega)]
    by_cases e : x = a + n
    · rw [if_pos e, h.rest _ (by omega), e]
    · rw [if_neg e, h.mid x h1 (by omega)]
  · rw [show a + (n + 1) = a + n + 1 by omega, g, if_pos rfl, h.at_]
  · rw [g, if_neg (by omega), if_neg (by omega), h.rest x (by omega)]
  · exact permIn_trans _ _ _ lo hi (h.perm lo hi h1 (by omega) h3) (swp_permIn f lo hi _ _ (by omega) (by omega) (by omega) (by omega) (by rw [hs]; exact h3))
/-- an element has moved down from m to m - n -/
structure Down (m n : Nat) (d f : Array α) : Prop where
  size : f.size = d.size
  mid : ∀ x, m - n < x → x ≤ m → f[x]! = d[x - 1]!
  at_ : f[m - n]! = d[m]!
  rest : ∀ x, (x < m - n ∨ m < x) → f[x]! = d[x]!
  perm : ∀ lo hi, lo ≤ m - n → m < hi → hi ≤ d.size → PermIn lo hi d f
theorem Down.zero (m : Nat) (d : Array α) : Down m 0 d d := ⟨rfl, fun x _ _ => by omega, rfl, fun _ _ => rfl, fun lo hi _ _ _ => permIn_refl d lo hi⟩
theorem Down.step {m n : Nat} {d f : Array α} (h : Down m n d f) (hn : n < m) (hm : m < d.size) : Down m (n + 1) d (swp f (m - n) (m - n - 1)) := by
  have hs := h.size
  have g := swp_get f (show m - n < f.size by omega) (show m - n - 1 < f.size by omega)
  refine ⟨by rw [swp_size, hs], fun x h1 h2 => ?_, ?_, fun x h1 => ?_, fun lo hi h1 h2 h3 => ?_⟩
  · rw [g, if_neg (by omega)]
    by_cases e : x = m - n
    · rw [if_pos e, h.rest _ (by omega), e]
    · rw [if_neg e, h.mid x (by omega) (by omega)]
  · rw [show m - (n + 1) = m - n - 1 by omega, g, if_pos rfl, h.at_]
  · rw [g, if_neg (by omega), if_neg (by omega), h.rest x (by omega)]
  · exact permIn_trans _ _ _ lo hi (h.perm lo hi (by omega) h2 h3) (swp_permIn f lo hi _ _ (by omega) (by omega) (by omega) (by omega) (by rw [hs]; exact h3))

/-- blocks of s elements are sorted, from lo on -/
def Blk (lt : α → α → Bool) (s lo n : Nat) (d : Array α) : Prop := ∀ x, lo ≤ x → x < n → s ∣ x → SortedIn lt x (min (x + s) n) d
theorem Blk.out {s lo n l2 h2 : Nat} {d f : Array α} (h : Blk lt s lo n d) (hp : PermIn l2 h2 d f) (hh : h2 ≤ lo) : Blk lt s lo n f := fun x h1 h3 h4 => SortedIn.out (h x h1 h3 h4) hp (.inr (by omega))
/-- blocks below hi are sorted -/
def Bel (lt : α → α → Bool) (s hi n : Nat) (d : Array α) : Prop := ∀ x, x < hi → s ∣ x → SortedIn lt x (min (x + s) n) d
theorem Bel.zero (s n : Nat) (d : Array α) : Bel lt s 0 n d := fun x h => by omega
theorem dvd_gap {s a x : Nat} (h1 : s ∣ a) (h2 : s ∣ x) (h3 : x < a + s) (h4 : ¬ x < a) : x = a := by
  obtain ⟨p, rfl⟩ := h1
  obtain ⟨q, rfl⟩ := h2
  have hq : q < p + 1 := by
    rw [show s * p + s = s * (p + 1) by rw [Nat.mul_add, Nat.mul_one]] at h3
    exact Nat.lt_of_mul_lt_mul_left h3
  by_cases e : q < p
  · have hs : 0 < s := by
      rcases Nat.eq_zero_or_pos s with h | h
      · subst h; simp at h3
      · exact h
    exact absurd (Nat.mul_lt_mul_of_pos_left e hs) h4
  · rw [show q = p by omega]
theorem dvd_low {s a x : Nat} (h1 : s ∣ a) (h2 : s ∣ x) (h3 : x < a) : x + s ≤ a := by
  obtain ⟨p, rfl⟩ := h1
  obtain ⟨q, rfl⟩ := h2
  have : q < p := Nat.lt_of_mul_lt_mul_left h3
  calc s * q + s = s * (q + 1) := by rw [Nat.mul_add, Nat.mul_one]
    _ ≤ s * p := Nat.mul_le_mul_left s this
/-- one block more -/
theorem Bel.next {s a n : Nat} {d f : Array α} (h : Bel lt s a n d) (ha : s ∣ a) (hp : PermIn a (min (a + s) n) d f) (hs : SortedIn lt a (min (a + s) n) f) : Bel lt s (a + s) n f := fun x h1 h2 => by
  by_cases e : x < a
  · have := dvd_low ha h2 e
    exact SortedIn.out (h x e h2) hp (.inl (by omega))
  · rw [dvd_gap ha h2 h1 e]; exact hs
theorem Bel.blk {s hi n : Nat} {d : Array α} (h : Bel lt s hi n d) (hn : n ≤ hi) : Blk lt s 0 n d := fun x _ h1 h2 => h x (by omega) h2
/-- what is left is sorted already -/
theorem Bel.rest {s a n : Nat} {d : Array α} (h : Bel lt (2 * s) a n d) (hb : Blk lt s a n d) (ha : 2 * s ∣ a) (hn : n ≤ a + s) : Blk lt (2 * s) 0 n d := fun x _ h1 h2 => by
  by_cases e : x < a
  · exact h x e h2
  · have hx : x = a := dvd_gap ha h2 (by omega) e
    subst hx
    have := hb x (Nat.le_refl _) h1 (Nat.dvd_trans ⟨2, by omega⟩ ha)
    exact SortedIn.part this (Nat.le_refl _) (by omega)
end Go.Proofs.YtdiljpdohmeceaaGreat.so

/- slices: exchanging two parts of a row of places, rotating it. -/
namespace Go.Proofs.YtdiljpdohmeceaaGreat.so
open Go.RowKit Go.Sort Go.Lib H
variable {α : Type} [Inhabited α]

set_option maxHeartbeats 4000000 in
set_option maxRecDepth 1000000 in
theorem swapRange_any (k : Nat) (aE : ∀ w, (isAgg 73).run Tryz.prog w = .ok true w) (zE : ∀ w, (Go.sizeOf 73).run Tryz.prog w = .ok k w) (enc : α → List Value) (fv : Value) (blk off cap a b n : Nat) (d0 d : Array α) (w0 w : World)
    (R : RowK enc k w0 blk off d0) (hs : d0.size = d.size) (S : SWK enc k w0 blk off d w) (hab : a + n ≤ b) (hb : b + n ≤ d.size) (hsz : d.size < 4611686018427387904) :
    Calls Tryz.prog 139 #[.slice (some ⟨blk, off, none⟩) d.size cap, .int .i64 a, .int .i64 b, .int .i64 n, fv] w fun e w' => e = .returned (.tuple #[]) ∧ ∃ f, Swapped a b n d f ∧ SWK enc k w0 blk off f w' := by
  have mixed : Tryz.prog.follows Departure.mixedOrders = true := by kernel_rfl
  have S0 : Aside (SWK enc k w0 blk off d w) := S
  clear S
  go_enter Tryz.func139, Tryz.ntmps139
  go_wp2
  go_loopg [10] n (fun kx s10 wr => ∃ (i : Nat) (dk : Array α), s10 = .int .i64 i ∧ i + kx = n ∧ Swapped a b i d dk ∧ Aside (SWK enc k w0 blk off dk wr))
  case atStart => exact ⟨0, d, rfl, by omega, Swapped.zero a b d, S0⟩
  case round =>
    clear S0
    obtain ⟨i, dk, rfl, hkx, hsw, S1⟩ := hrel
    by_cases hlt : i < n
    · have hltz : (i : Int) < (n : Int) := by omega
      have hds : dk.size = d.size := hsw.size
      have HSW : Hid (Swapped a b (i + 1) d (swp dk (a + i) (b + i))) := hsw.step (by omega) (by omega)
      clear hsw
      go_wp2_with fail
      have ea44 : ((a : Int) + (i : Int)).toNat = a + i := by omega
      have pa44 : (0 : Int) ≤ (a : Int) + (i : Int) := by omega
      have ba44 : (a : Int) + (i : Int) < (d.size : Int) := by omega
      have ra44 : IntKind.i64.wrap ((a : Int) + (i : Int)) = (a : Int) + (i : Int) := by rw [IntKind.wrap_i64]; omega
      have ec44 : ((b : Int) + (i : Int)).toNat = b + i := by omega
      have pc44 : (0 : Int) ≤ (b : Int) + (i : Int) := by omega
      have bc44 : (b : Int) + (i : Int) < (d.size : Int) := by omega
      have rc44 : IntKind.i64.wrap ((b : Int) + (i : Int)) = (b : Int) + (i : Int) := by rw [IntKind.wrap_i64]; omega
      have S2 : Aside (SWK enc k w0 blk off (swp dk (a + i) (b + i)) ((wr.drew.setCells blk (off + (a + i) * k) (enc dk[b + i]!)).setCells blk (off + (b + i) * k) (enc dk[a + i]!))) := S1.out.swapped R (a + i) (b + i) (by omega) (by omega)
      have l44a := S1.out.ld1 R (by omega) Tryz.prog (a + i) (by omega)
      have l44b := S1.out.ld1 R (by omega) Tryz.prog (b + i) (by omega)
      have s44a := S1.out.st1 R (by omega) Tryz.prog (a + i) (by omega) dk[b + i]!
      have s44b := S1.out.st2 R (by omega) Tryz.prog (a + i) (b + i) (by omega) (by omega) dk[b + i]! dk[a + i]!
      have n44a : (enc dk[a + i]!).length = k := R.hk _
      have n44b : (enc dk[b + i]!).length = k := R.hk _
      generalize enc dk[a + i]! = cI44 at S2 l44a s44b n44a
      generalize enc dk[b + i]! = cJ44 at S2 l44b s44a s44b n44b
      clear S1
      go_big_region_o
      clear l44a l44b s44a s44b
      generalize (wr.drew.setCells blk (off + (a + i) * k) cJ44).setCells blk (off + (b + i) * k) cI44 = w2 at S2 ⊢
      go_wp2
      go_roundg (n - (i + 1))
      case measure => omega
      case rel => exact ⟨i + 1, swp dk (a + i) (b + i), by simp, by omega, HSW.out, S2⟩
    · have hltz : ¬ (i : Int) < (n : Int) := by omega
      go_wp2
      go_end0
      obtain rfl : i = n := by omega
      exact ⟨rfl, dk, hsw, S1.out⟩

set_option maxHeartbeats 4000000 in
set_option maxRecDepth 1000000 in
theorem rotate_any (k : Nat) (aE : ∀ w, (isAgg 73).run Tryz.prog w = .ok true w) (zE : ∀ w, (Go.sizeOf 73).run Tryz.prog w = .ok k w) (enc : α → List Value) (fv : Value) (blk off cap a m b : Nat) (d0 d : Array α) (w0 w : World)
    (R : RowK enc k w0 blk off d0) (hs : d0.size = d.size) (S : SWK enc k w0 blk off d w) (ham : a < m) (hmb : m < b) (hb : b ≤ d.size) (hsz : d.size < 4611686018427387904) :
    Calls Tryz.prog 129 #[.slice (some ⟨blk, off, none⟩) d.size cap, .int .i64 a, .int .i64 m, .int .i64 b, fv] w fun e w' => e = .returned (.tuple #[]) ∧ ∃ f, Rot a m b d f ∧ PermIn a b d f ∧ SWK enc k w0 blk off f w' := by
  have S0 : Aside (SWK enc k w0 blk off d w) := S
  have HSW : As (∀ (x y n : Nat) (dk : Array α) (wr : World), dk.size = d.size → SWK enc k w0 blk off dk wr → x + n ≤ y → y + n ≤ d.size → Calls Tryz.prog 139 #[.slice (some ⟨blk, off, none⟩) d.size cap, .int .i64 x, .int .i64 y, .int .i64 n, fv] wr fun e w' => e = .returned (.tuple #[]) ∧ ∃ f, Swapped x y n dk f ∧ SWK enc k w0 blk off f w') := ⟨fun x y n dk wr h1 h2 h3 h4 => by
    have := swapRange_any k aE zE enc fv blk off cap x y n d0 dk w0 wr R (by omega) h2 h3 (by omega) (by omega)
    rwa [h1] at this⟩
  have HC0 : Hid (∀ f, Rot (m - (m - a)) m (m + (b - m)) d f → Rot a m b d f) := by
    show ∀ f, Rot (m - (m - a)) m (m + (b - m)) d f → Rot a m b d f
    rw [show m - (m - a) = a by omega, show m + (b - m) = b by omega]
    exact fun f h => h
  have HP0 : Hid (PermIn a b d d) := permIn_refl d a b
  clear S aE zE R
  go_enter Tryz.func129, Tryz.ntmps129
  go_wp2
  go_loopg [10, 11] (b - a) (fun kx s10 s11 wr => ∃ (i j : Nat) (dk : Array α), s10 = .int .i64 i ∧ s11 = .int .i64 j ∧ 1 ≤ i ∧ 1 ≤ j ∧ i ≤ m - a ∧ j ≤ b - m ∧ i + j ≤ kx ∧ dk.size = d.size ∧ Hid (∀ f, Rot (m - i) m (m + j) dk f → Rot a m b d f) ∧ Hid (PermIn a b d dk) ∧ Aside (SWK enc k w0 blk off dk wr))
  case atStart => exact ⟨m - a, b - m, d, by congr 1; omega, by congr 1; omega, by omega, by omega, Nat.le_refl _, Nat.le_refl _, by omega, rfl, HC0, HP0, S0⟩
  case round =>
    clear S0 HC0 HP0
    obtain ⟨i, j, dk, rfl, rfl, i1, j1, him, hjb, hkx, hds, HC, HP, S1⟩ := hrel
    have em : ((m : Int) - (i : Int)) = ((m - i : Nat) : Int) := by omega
    by_cases hij : i = j
    · subst hij
      have H1 := As.mk (HSW.out (m - i) m i dk wr hds S1.out (by omega) (by omega))
      rw [← em] at H1
      clear HSW S1 em
      go_wp2_with (go_at_call 139; refine H1.out.mono ?_; rintro e w1 ⟨rfl, f, h1, h2⟩; have HF := As.mk (And.intro h1 h2); clear h1 h2 H1)
      go_end0
      exact ⟨rfl, f, HC.out f (Rot.last (by omega) HF.out.1), permIn_trans _ _ _ a b HP.out (Swapped.perm a b (by omega) (by omega) (by omega) (by omega) HF.out.1), HF.out.2⟩
    · have hne : ¬ (i : Int) = (j : Int) := by omega
      by_cases hlt : j < i
      · have hltz : (j : Int) < (i : Int) := by omega
        have H1 := As.mk (HSW.out (m - i) m j dk wr hds S1.out (by omega) (by omega))
        rw [← em] at H1
        clear HSW S1 em
        go_wp2_with (go_at_call 139; refine H1.out.mono ?_; rintro e w1 ⟨rfl, f, h1, h2⟩; have HF := As.mk (And.intro h1 h2); clear h1 h2 H1)
        go_roundg (i - j + j)
        case measure => omega
        case rel => exact ⟨i - j, j, f, by congr 1; omega, rfl, by omega, j1, by omega, hjb, Nat.le_refl _, HF.out.1.size.trans hds, fun g hg => HC.out g (Rot.more (by omega) hlt HF.out.1 hg), permIn_trans _ _ _ a b HP.out (Swapped.perm a b (by omega) (by omega) (by omega) (by omega) HF.out.1), HF.out.2⟩
      · have hltz : ¬ (j : Int) < (i : Int) := by omega
        have H1 := As.mk (HSW.out (m - i) (m + j - i) i dk wr hds S1.out (by omega) (by omega))
        rw [← em, show ((m + j - i : Nat) : Int) = (m : Int) + (j : Int) - (i : Int) by omega] at H1
        clear HSW S1 em
        go_wp2_with (go_at_call 139; refine H1.out.mono ?_; rintro e w1 ⟨rfl, f, h1, h2⟩; have HF := As.mk (And.intro h1 h2); clear h1 h2 H1)
        go_roundg (i + (j - i))
        case measure => omega
        case rel => exact ⟨i, j - i, f, rfl, by congr 1; omega, i1, by omega, him, by omega, Nat.le_refl _, HF.out.1.size.trans hds, fun g hg => HC.out g (Rot.less (by omega) (by omega) HF.out.1 hg), permIn_trans _ _ _ a b HP.out (Swapped.perm a b (by omega) (by omega) (by omega) (by omega) HF.out.1), HF.out.2⟩
end Go.Proofs.YtdiljpdohmeceaaGreat.so

/- slices: joining two sorted parts of a row of places, where one of them has one element. -/
namespace Go.Proofs.YtdiljpdohmeceaaGreat.so
open Go.RowKit Go.Sort Go.Lib H
variable {α : Type} [Inhabited α]

/-- what the walks ask of the comparison and of the row -/
structure Srt (enc : α → List Value) (k : Nat) (cf : α → α → Int) (g : Nat) (cb : Array Value) (blk off : Nat) (d0 : Array α) (w0 : World) : Prop where
  aE : ∀ w, (isAgg 73).run Tryz.prog w = .ok true w
  zE : ∀ w, (Go.sizeOf 73).run Tryz.prog w = .ok k w
  eg : ∀ args w, (callFunc g args).run Tryz.prog w = .ok (.enter g args) w
  hc : CmpLays Tryz.prog g cb enc k cf blk off d0.size w0
  R : RowK enc k w0 blk off d0
  hO : SWO (ltOf cf)
  hz : d0.size < 4611686018427387904
theorem half_eq (i j : Nat) : (i + j) / 2 + ((i + j) - (i + j) / 2) = i + j := by omega

set_option maxHeartbeats 8000000 in
set_option maxRecDepth 1000000 in
theorem merge_first {enc : α → List Value} {k : Nat} {cf : α → α → Int} {g : Nat} {cb : Array Value} {blk off : Nat} {d0 : Array α} {w0 : World} (X : Srt enc k cf g cb blk off d0 w0) (cap a m b : Nat) (d : Array α) (w : World)
    (hs : d.size = d0.size) (S : SWK enc k w0 blk off d w) (ham : a < m) (ham2 : m ≤ a + 1) (hmb : m < b) (hb : b ≤ d.size) (s2 : SortedIn (ltOf cf) m b d) :
    Calls Tryz.prog 120 #[.slice (some ⟨blk, off, none⟩) d.size cap, .int .i64 a, .int .i64 m, .int .i64 b, .func (.func g) #[] cb] w fun e w' => e = .returned (.tuple #[]) ∧ ∃ f, PermIn a b d f ∧ SortedIn (ltOf cf) a b f ∧ SWK enc k w0 blk off f w' := by
  have mixed : Tryz.prog.follows Departure.mixedOrders = true := by kernel_rfl
  obtain ⟨aE, zE, eg, hc, R, hO, hz⟩ := X
  have HC : Aside _ := hc
  have HR : Aside _ := R
  have HO : Aside _ := hO
  have S0 : Aside (SWK enc k w0 blk off d w) := S
  have S2 : Aside _ := s2
  have hsz : d.size < 4611686018427387904 := by rw [hs]; exact hz
  have HS := As.mk hs
  clear S hc R hO s2 hs
  have e1 : ((m : Int) - (a : Int) == 1) = true := by simp; omega
  go_enter Tryz.func120, Tryz.ntmps120
  go_wp2
  go_loopg [10, 11] (b - a) (fun kx s10 s11 wr => ∃ (i j : Nat), s10 = .int .i64 i ∧ s11 = .int .i64 j ∧ m ≤ i ∧ i ≤ j ∧ j ≤ b ∧ j - i ≤ kx ∧ Aside ((∀ x, m ≤ x → x < i → ltOf cf d[x]! d[a]! = true) ∧ (∀ x, j ≤ x → x < b → ltOf cf d[x]! d[a]! = false) ∧ SWK enc k w0 blk off d wr))
  case atStart => exact ⟨m, b, rfl, rfl, by omega, by omega, by omega, by omega, ⟨fun x h1 h2 => by omega, fun x h1 h2 => by omega, S0.out⟩⟩
  case round =>
    clear S0
    obtain ⟨i, j, rfl, rfl, i1, hij, hjb, hkx, S1⟩ := hrel
    by_cases hlt : i < j
    · have hltz : (i : Int) < (j : Int) := by omega
      obtain ⟨h, hh⟩ : ∃ h, (i + j) / 2 = h := ⟨_, rfl⟩
      have eh : ((i : Int) + (j : Int)) / 2 = (h : Int) := by omega
      have h1 : i ≤ h := by omega
      have h2 : h < j := by omega
      clear hh
      obtain ⟨xh, hxh⟩ : ∃ x, d[h]! = x := ⟨_, rfl⟩
      obtain ⟨xa, hxa⟩ : ∃ x, d[a]! = x := ⟨_, rfl⟩
      have jz : (h : Int) < (d.size : Int) := by omega
      have jz1 : (a : Int) < (d.size : Int) := by omega
      have lh := S1.out.2.2.ld HR.out HS.out Tryz.prog h (by omega)
      have la := S1.out.2.2.ld HR.out HS.out Tryz.prog a (by omega)
      rw [hxh] at lh
      rw [hxa] at la
      have hcg := S1.out.2.2.cmp HC.out HS.out xh xa
      have HX : Hid (d[h]! = xh ∧ d[a]! = xa) := ⟨hxh, hxa⟩
      clear hxh hxa
      by_cases hlv : cf xh xa < 0
      · go_wp2_with fail
        clear eh
        go_quiet_grown (first | (go_at_fn g; refine Calls.grown_of (hcg _ _)))
        go_wp2
        go_roundg (j - (h + 1))
        case measure => omega
        case rel =>
          refine ⟨h + 1, j, by go_num, rfl, by omega, by omega, hjb, Nat.le_refl _, ⟨fun x p q => ?_, S1.out.2.1, S1.out.2.2.grown nq osq⟩⟩
          have e : ltOf cf d[h]! d[a]! = true := by rw [HX.out.1, HX.out.2]; exact decide_eq_true hlv
          by_cases e2 : x = h
          · rw [e2]; exact e
          · cases e3 : ltOf cf d[x]! d[a]! with
            | true => rfl
            | false => rw [HO.out.ntrans _ _ _ (S2.out x h p (by omega) (by omega)) e3] at e; cases e
      · go_wp2_with fail
        clear eh
        go_quiet_grown (first | (go_at_fn g; refine Calls.grown_of (hcg _ _)))
        go_wp2
        go_roundg (h - i)
        case measure => omega
        case rel =>
          refine ⟨i, h, rfl, rfl, i1, by omega, by omega, Nat.le_refl _, ⟨S1.out.1, fun x p q => ?_, S1.out.2.2.grown nq osq⟩⟩
          have e : ltOf cf d[h]! d[a]! = false := by rw [HX.out.1, HX.out.2]; exact decide_eq_false (by omega)
          by_cases e2 : x = h
          · rw [e2]; exact e
          · exact HO.out.ntrans _ _ _ (S2.out h x (by omega) (by omega) q) e
    · obtain rfl : i = j := by omega
      have hltz : ¬ (i : Int) < (i : Int) := by omega
      have S3 : Aside _ := S1.out.2.2
      have S4 := As.mk (And.intro S1.out.1 S1.out.2.1)
      clear S1 hlt
      go_wp2
      go_loopg [13] (b - a) (fun kx s13 wr => ∃ (u : Nat) (dk : Array α), s13 = .int .i64 u ∧ a ≤ u ∧ u ≤ i - 1 ∧ u - a + kx = b - a ∧ Aside (Up a (u - a) d dk ∧ SWK enc k w0 blk off dk wr))
      case atStart => exact ⟨a, d, rfl, by omega, by omega, by omega, ⟨by rw [Nat.sub_self]; exact Up.zero a d, S3.out⟩⟩
      case round =>
        clear S3
        obtain ⟨u, dk, rfl, hu, hn, hkx, S1⟩ := hrel
        by_cases hl : u < i - 1
        · have hlz : (u : Int) < (i : Int) - 1 := by omega
          have HU : As (Up a (u + 1 - a) d (swp dk u (u + 1))) := ⟨by
            have := S1.out.1.step (by omega)
            rwa [show a + (u - a) = u by omega, show u - a + 1 = u + 1 - a by omega] at this⟩
          clear hl
          have hub : u + 1 < d.size := by omega
          have HDS := As.mk S1.out.1.size
          have ea44 : (u : Int).toNat = u := by omega
          have pa44 : (0 : Int) ≤ (u : Int) := by omega
          have ba44 : (u : Int) < (d.size : Int) := by omega
          have ec44 : ((u : Int) + 1).toNat = u + 1 := by omega
          have pc44 : (0 : Int) ≤ (u : Int) + 1 := by omega
          have bc44 : (u : Int) + 1 < (d.size : Int) := by omega
          have rc44 : IntKind.i64.wrap ((u : Int) + 1) = (u : Int) + 1 := by rw [IntKind.wrap_i64]; omega
          have S2 : Aside (SWK enc k w0 blk off (swp dk u (u + 1)) ((wr.drew.setCells blk (off + u * k) (enc dk[u + 1]!)).setCells blk (off + (u + 1) * k) (enc dk[u]!))) := S1.out.2.swapped HR.out u (u + 1) (by rw [HDS.out]; omega) (by rw [HDS.out]; omega)
          have l44a := S1.out.2.ld1 HR.out (by rw [HDS.out, HS.out]) Tryz.prog u (by rw [HDS.out]; omega)
          have l44b := S1.out.2.ld1 HR.out (by rw [HDS.out, HS.out]) Tryz.prog (u + 1) (by rw [HDS.out]; omega)
          have s44a := S1.out.2.st1 HR.out (by rw [HDS.out, HS.out]) Tryz.prog u (by rw [HDS.out]; omega) dk[u + 1]!
          have s44b := S1.out.2.st2 HR.out (by rw [HDS.out, HS.out]) Tryz.prog u (u + 1) (by rw [HDS.out]; omega) (by rw [HDS.out]; omega) dk[u + 1]! dk[u]!
          have n44a : (enc dk[u]!).length = k := HR.out.hk _
          have n44b : (enc dk[u + 1]!).length = k := HR.out.hk _
          generalize enc dk[u]! = cI44 at S2 l44a s44b n44a
          generalize enc dk[u + 1]! = cJ44 at S2 l44b s44a s44b n44b
          clear S1
          go_wp2_with fail
          go_big_region_o
          clear l44a l44b s44a s44b
          generalize (wr.drew.setCells blk (off + u * k) cJ44).setCells blk (off + (u + 1) * k) cI44 = w2 at S2 ⊢
          go_wp2
          go_roundg (b - a - (u + 1 - a))
          case measure => omega
          case rel => exact ⟨u + 1, swp dk u (u + 1), by go_num, by omega, by omega, by omega, ⟨HU.out, S2.out⟩⟩
        · have hlz : ¬ (u : Int) < (i : Int) - 1 := by omega
          have HE : As (a + (u - a) = i - 1) := ⟨by omega⟩
          go_wp2
          (try simp only [Exit.inBlock, Exit.then]); refine bodyPost_ret (results_none rfl _ _ _) rfl ?_
          have hU := S1.out.1
          have e9 := HE.out
          refine ⟨rfl, dk, hU.perm a b (Nat.le_refl _) (by omega) hb, ?_, S1.out.2⟩
          obtain rfl : m = a + 1 := by omega
          refine first_in HO.out (i := i) ⟨by omega, hjb⟩ S2.out S4.out.1 S4.out.2 (fun x p q => hU.mid x p (by omega)) ?_ (fun x p q => hU.rest x (by omega))
          rw [← e9]
          exact hU.at_
end Go.Proofs.YtdiljpdohmeceaaGreat.so

/- slices: joining two sorted parts of a row of places, where the latter has one element. -/
namespace Go.Proofs.YtdiljpdohmeceaaGreat.so
open Go.RowKit Go.Sort Go.Lib H
variable {α : Type} [Inhabited α]

set_option maxHeartbeats 8000000 in
set_option maxRecDepth 1000000 in
theorem merge_last {enc : α → List Value} {k : Nat} {cf : α → α → Int} {g : Nat} {cb : Array Value} {blk off : Nat} {d0 : Array α} {w0 : World} (X : Srt enc k cf g cb blk off d0 w0) (cap a m b : Nat) (d : Array α) (w : World)
    (hs : d.size = d0.size) (S : SWK enc k w0 blk off d w) (ham : a + 1 < m) (hmb : m < b) (hmb2 : b ≤ m + 1) (hb : b ≤ d.size) (s2 : SortedIn (ltOf cf) a m d) :
    Calls Tryz.prog 120 #[.slice (some ⟨blk, off, none⟩) d.size cap, .int .i64 a, .int .i64 m, .int .i64 b, .func (.func g) #[] cb] w fun e w' => e = .returned (.tuple #[]) ∧ ∃ f, PermIn a b d f ∧ SortedIn (ltOf cf) a b f ∧ SWK enc k w0 blk off f w' := by
  have mixed : Tryz.prog.follows Departure.mixedOrders = true := by kernel_rfl
  obtain ⟨aE, zE, eg, hc, R, hO, hz⟩ := X
  have HC : Aside _ := hc
  have HR : Aside _ := R
  have HO : Aside _ := hO
  have S0 : Aside (SWK enc k w0 blk off d w) := S
  have S2 : Aside _ := s2
  have hsz : d.size < 4611686018427387904 := by rw [hs]; exact hz
  have HS := As.mk hs
  clear S hc R hO s2 hs
  have e1 : ((m : Int) - (a : Int) == 1) = false := by simp; omega
  have e2 : ((b : Int) - (m : Int) == 1) = true := by simp; omega
  go_enter Tryz.func120, Tryz.ntmps120
  go_wp2
  go_loopg [14, 15] (b - a) (fun kx s10 s11 wr => ∃ (i j : Nat), s10 = .int .i64 i ∧ s11 = .int .i64 j ∧ a ≤ i ∧ i ≤ j ∧ j ≤ m ∧ j - i ≤ kx ∧ Aside ((∀ x, a ≤ x → x < i → ltOf cf d[m]! d[x]! = false) ∧ (∀ x, j ≤ x → x < m → ltOf cf d[m]! d[x]! = true) ∧ SWK enc k w0 blk off d wr))
  case atStart => exact ⟨a, m, rfl, rfl, by omega, by omega, by omega, by omega, ⟨fun x h1 h2 => by omega, fun x h1 h2 => by omega, S0.out⟩⟩
  case round =>
    clear S0
    obtain ⟨i, j, rfl, rfl, i1, hij, hjb, hkx, S1⟩ := hrel
    by_cases hlt : i < j
    · have hltz : (i : Int) < (j : Int) := by omega
      obtain ⟨h, hh⟩ : ∃ h, (i + j) / 2 = h := ⟨_, rfl⟩
      have eh : ((i : Int) + (j : Int)) / 2 = (h : Int) := by omega
      have h1 : i ≤ h := by omega
      have h2 : h < j := by omega
      clear hh
      obtain ⟨xh, hxh⟩ : ∃ x, d[h]! = x := ⟨_, rfl⟩
      obtain ⟨xa, hxa⟩ : ∃ x, d[m]! = x := ⟨_, rfl⟩
      have jz : (h : Int) < (d.size : Int) := by omega
      have jz1 : (m : Int) < (d.size : Int) := by omega
      have lh := S1.out.2.2.ld HR.out HS.out Tryz.prog h (by omega)
      have la := S1.out.2.2.ld HR.out HS.out Tryz.prog m (by omega)
      rw [hxh] at lh
      rw [hxa] at la
      have hcg := S1.out.2.2.cmp HC.out HS.out xa xh
      have HX : Hid (d[h]! = xh ∧ d[m]! = xa) := ⟨hxh, hxa⟩
      clear hxh hxa
      by_cases hlv : cf xa xh < 0
      · go_wp2_with fail
        clear eh
        go_quiet_grown (first | (go_at_fn g; refine Calls.grown_of (hcg _ _)))
        go_wp2
        go_roundg (h - i)
        case measure => omega
        case rel =>
          refine ⟨i, h, rfl, rfl, i1, by omega, by omega, Nat.le_refl _, ⟨S1.out.1, fun x p q => ?_, S1.out.2.2.grown nq osq⟩⟩
          have e : ltOf cf d[m]! d[h]! = true := by rw [HX.out.1, HX.out.2]; exact decide_eq_true hlv
          by_cases e2 : x = h
          · rw [e2]; exact e
          · cases e3 : ltOf cf d[m]! d[x]! with
            | true => rfl
            | false => rw [HO.out.ntrans _ _ _ e3 (S2.out h x (by omega) (by omega) (by omega))] at e; cases e
      · have hq : decide (cf xa xh < 0) = false := decide_eq_false hlv
        go_wp2_with fail
        clear eh
        go_quiet_grown (first | (go_at_fn g; refine Calls.grown_of (hcg _ _)))
        go_wp2
        go_roundg (j - (h + 1))
        case measure => omega
        case rel =>
          refine ⟨h + 1, j, by go_num, rfl, by omega, by omega, hjb, Nat.le_refl _, ⟨fun x p q => ?_, S1.out.2.1, S1.out.2.2.grown nq osq⟩⟩
          have e : ltOf cf d[m]! d[h]! = false := by rw [HX.out.1, HX.out.2]; exact decide_eq_false (by omega)
          by_cases e2 : x = h
          · rw [e2]; exact e
          · exact HO.out.ntrans _ _ _ e (S2.out x h p (by omega) (by omega))
    · obtain rfl : i = j := by omega
      have hltz : ¬ (i : Int) < (i : Int) := by omega
      have S3 : Aside _ := S1.out.2.2
      have S4 := As.mk (And.intro S1.out.1 S1.out.2.1)
      clear S1 hlt
      go_wp2
      go_loopg [17] (b - a) (fun kx s13 wr => ∃ (u : Nat) (dk : Array α), s13 = .int .i64 u ∧ i ≤ u ∧ u ≤ m ∧ u - i ≤ kx ∧ Aside (Down m (m - u) d dk ∧ SWK enc k w0 blk off dk wr))
      case atStart => exact ⟨m, d, rfl, by omega, by omega, by omega, ⟨by rw [Nat.sub_self]; exact Down.zero m d, S3.out⟩⟩
      case round =>
        clear S3
        obtain ⟨u, dk, rfl, hu, hn, hkx, S1⟩ := hrel
        by_cases hl : i < u
        · have hlz : (i : Int) < (u : Int) := by omega
          have HU : As (Down m (m - (u - 1)) d (swp dk u (u - 1))) := ⟨by
            have := S1.out.1.step (by omega) (by omega)
            rwa [show m - (m - u) = u by omega, show m - u + 1 = m - (u - 1) by omega] at this⟩
          clear hl
          have hub : u < d.size := by omega
          obtain ⟨v, hv⟩ : ∃ v, u - 1 = v := ⟨_, rfl⟩
          rw [hv] at HU
          have hv1 : u = v + 1 := by omega
          have HV := As.mk hv1
          have ev44 : (u : Int) - 1 = (v : Int) := by omega
          have iv44 : i ≤ v := by omega
          have hvu : v < u := by omega
          clear hv hv1
          have HDS := As.mk S1.out.1.size
          have ea44 : (u : Int).toNat = u := by omega
          have pa44 : (0 : Int) ≤ (u : Int) := by omega
          have ba44 : (u : Int) < (d.size : Int) := by omega
          have ec44 : (v : Int).toNat = v := by omega
          have pc44 : (0 : Int) ≤ (v : Int) := by omega
          have bc44 : (v : Int) < (d.size : Int) := by omega
          have rc44 : IntKind.i64.wrap ((u : Int) - 1) = (v : Int) := by rw [IntKind.wrap_i64]; omega
          have S2 : Aside (SWK enc k w0 blk off (swp dk u v) ((wr.drew.setCells blk (off + u * k) (enc dk[v]!)).setCells blk (off + v * k) (enc dk[u]!))) := S1.out.2.swapped HR.out u v (by rw [HDS.out]; omega) (by rw [HDS.out]; omega)
          have l44a := S1.out.2.ld1 HR.out (by rw [HDS.out, HS.out]) Tryz.prog u (by rw [HDS.out]; omega)
          have l44b := S1.out.2.ld1 HR.out (by rw [HDS.out, HS.out]) Tryz.prog v (by rw [HDS.out]; omega)
          have s44a := S1.out.2.st1 HR.out (by rw [HDS.out, HS.out]) Tryz.prog u (by rw [HDS.out]; omega) dk[v]!
          have s44b := S1.out.2.st2 HR.out (by rw [HDS.out, HS.out]) Tryz.prog u v (by rw [HDS.out]; omega) (by rw [HDS.out]; omega) dk[v]! dk[u]!
          have n44a : (enc dk[u]!).length = k := HR.out.hk _
          have n44b : (enc dk[v]!).length = k := HR.out.hk _
          generalize enc dk[u]! = cI44 at S2 l44a s44b n44a
          generalize enc dk[v]! = cJ44 at S2 l44b s44a s44b n44b
          clear S1
          go_wp2_with fail
          go_big_region_o
          clear l44a l44b s44a s44b
          generalize (wr.drew.setCells blk (off + u * k) cJ44).setCells blk (off + v * k) cI44 = w2 at S2 ⊢
          go_wp2
          go_roundg (v - i)
          case measure => omega
          case rel => exact ⟨v, swp dk u v, rfl, by omega, by omega, by omega, ⟨HU.out, S2.out⟩⟩
        · have hlz : ¬ (i : Int) < (u : Int) := by omega
          have HE : As (m - (m - u) = i) := ⟨by omega⟩
          go_wp2
          (try simp only [Exit.inBlock, Exit.then]); refine bodyPost_ret (results_none rfl _ _ _) rfl ?_
          have hU := S1.out.1
          have e9 := HE.out
          refine ⟨rfl, dk, hU.perm a b (by omega) (by omega) hb, ?_, S1.out.2⟩
          obtain rfl : b = m + 1 := by omega
          refine last_in HO.out (i := i) ⟨i1, hjb⟩ S2.out S4.out.1 S4.out.2 (fun x p q => hU.rest x (by omega)) ?_ (fun x p q => hU.mid x (by omega) q)
          have := hU.at_
          rwa [e9] at this
end Go.Proofs.YtdiljpdohmeceaaGreat.so

/- Joining two sorted parts of a row: where to part them, plain words. -/
namespace Go.Proofs.YtdiljpdohmeceaaGreat.so
open Go.Sort
variable {α : Type} [Inhabited α] {lt : α → α → Bool}

theorem Rot.none {a m b : Nat} (d : Array α) (h : a = m ∨ m = b) (h3 : m ≤ b) : Rot a m b d d := by
  refine ⟨rfl, fun x p q => ?_, fun x p q => ?_, fun _ _ => rfl⟩
  · rcases h with h | h
    · rw [show x + (m - a) = x by omega]
    · omega
  · rcases h with h | h
    · omega
    · rw [show x - (b - m) = x by omega]
/-- the search's bounds -/
structure Bnd (a m b mid s0 r0 : Nat) : Prop where
  am : a < m
  mb : m < b
  md : 2 * mid ≤ a + b ∧ a + b ≤ 2 * mid + 1
  sr : (mid < m ∧ s0 + b = mid + m ∧ r0 = mid) ∨ (m ≤ mid ∧ s0 = a ∧ r0 = m)
theorem Bnd.mk' (a m b mid : Nat) (am : a < m) (mb : m < b) (h : 2 * mid ≤ a + b ∧ a + b ≤ 2 * mid + 1) : ∃ s0 r0, Bnd a m b mid s0 r0 := by
  by_cases e : mid < m
  · exact ⟨mid + m - b, mid, am, mb, h, .inl ⟨e, by omega, rfl⟩⟩
  · exact ⟨a, m, am, mb, h, .inr ⟨by omega, rfl, rfl⟩⟩
theorem Bnd.in_ {a m b mid s0 r0 : Nat} (h : Bnd a m b mid s0 r0) {x : Nat} (h1 : s0 ≤ x) (h2 : x < r0) : a ≤ x ∧ x < m ∧ m ≤ mid + m - 1 - x ∧ mid + m - 1 - x < b ∧ x + 1 ≤ mid + m ∧ x < mid := by
  obtain ⟨_, _, _, sr⟩ := h
  omega
theorem Bnd.le {a m b mid s0 r0 : Nat} (h : Bnd a m b mid s0 r0) : s0 ≤ r0 ∧ a ≤ s0 ∧ r0 ≤ m ∧ r0 ≤ mid ∧ a < mid ∧ mid < b := by
  obtain ⟨_, _, _, sr⟩ := h
  omega
/-- what the search knows -/
structure Fnd (lt : α → α → Bool) (a m b mid s0 r0 i j : Nat) (d : Array α) : Prop where
  ij : s0 ≤ i ∧ i ≤ j ∧ j ≤ r0
  lo : ∀ x, s0 ≤ x → x < i → lt d[mid + m - 1 - x]! d[x]! = false
  hi : ∀ x, j ≤ x → x < r0 → lt d[mid + m - 1 - x]! d[x]! = true
theorem Fnd.zero {a m b mid s0 r0 : Nat} (B : Bnd a m b mid s0 r0) (d : Array α) : Fnd lt a m b mid s0 r0 s0 r0 d := ⟨⟨Nat.le_refl _, B.le.1, Nat.le_refl _⟩, fun x _ _ => by omega, fun x _ _ => by omega⟩
theorem Fnd.up (hO : SWO lt) {a m b mid s0 r0 i j h : Nat} {d : Array α} (F : Fnd lt a m b mid s0 r0 i j d) (B : Bnd a m b mid s0 r0) (s1 : SortedIn lt a m d) (s2 : SortedIn lt m b d) (h1 : i ≤ h) (h2 : h < j) (e : lt d[mid + m - 1 - h]! d[h]! = false) : Fnd lt a m b mid s0 r0 (h + 1) j d := by
  have hf := F.ij
  refine ⟨by omega, fun x p q => ?_, F.hi⟩
  by_cases c : x = h
  · rw [c]; exact e
  · have b1 := B.in_ (x := x) p (by omega)
    have b2 := B.in_ (x := h) (by omega) (by omega)
    exact hO.ntrans _ _ _ (s2 _ _ b2.2.2.1 (by omega) b1.2.2.2.1) (hO.ntrans _ _ _ e (s1 x h b1.1 (by omega) b2.2.1))
theorem Fnd.down (hO : SWO lt) {a m b mid s0 r0 i j h : Nat} {d : Array α} (F : Fnd lt a m b mid s0 r0 i j d) (B : Bnd a m b mid s0 r0) (s1 : SortedIn lt a m d) (s2 : SortedIn lt m b d) (h1 : i ≤ h) (h2 : h < j) (e : lt d[mid + m - 1 - h]! d[h]! = true) : Fnd lt a m b mid s0 r0 i h d := by
  have hf := F.ij
  refine ⟨by omega, F.lo, fun x p q => ?_⟩
  by_cases c : x = h
  · rw [c]; exact e
  · have b1 := B.in_ (x := x) (by omega) q
    have b2 := B.in_ (x := h) (by omega) (by omega)
    cases e3 : lt d[mid + m - 1 - x]! d[x]! with
    | true => rfl
    | false =>
      have k1 := hO.ntrans _ _ _ (s2 (mid + m - 1 - x) (mid + m - 1 - h) b1.2.2.1 (by omega) b2.2.2.2.1) e3
      have k2 := hO.ntrans _ _ _ k1 (s1 h x b2.1 (by omega) b1.2.1)
      rw [k2] at e
      cases e
theorem Fnd.cut (hO : SWO lt) {a m b mid s0 r0 st en : Nat} {d : Array α} (F : Fnd lt a m b mid s0 r0 st st d) (B : Bnd a m b mid s0 r0) (s1 : SortedIn lt a m d) (s2 : SortedIn lt m b d) (he : st + en = mid + m) : Cutp lt a m b mid st en d := by
  have hf := F.ij
  have hl := B.le
  have hb := B.sr
  have hm := B.md
  have h1 := B.am
  have h2 := B.mb
  refine ⟨by omega, by omega, he, by omega, fun x y p q r s => ?_, fun x y p q r s => ?_⟩
  · have e := F.lo (st - 1) (by omega) (by omega)
    rw [show mid + m - 1 - (st - 1) = en by omega] at e
    have k1 : lt d[y]! d[st - 1]! = false := by
      by_cases c : y = en
      · rw [c]; exact e
      · exact hO.ntrans _ _ _ (s2 en y (by omega) (by omega) s) e
    by_cases c : x = st - 1
    · rw [c]; exact k1
    · exact hO.ntrans _ _ _ k1 (s1 x (st - 1) p (by omega) (by omega))
  · have e := F.hi st (Nat.le_refl _) (by omega)
    rw [show mid + m - 1 - st = en - 1 by omega] at e
    cases e3 : lt d[y]! d[x]! with
    | true => rfl
    | false =>
      have k1 : lt d[en - 1]! d[x]! = false := by
        by_cases c : y = en - 1
        · rw [← c]; exact e3
        · exact hO.ntrans _ _ _ (s2 y (en - 1) r (by omega) (by omega)) e3
      have k2 : lt d[en - 1]! d[st]! = false := by
        by_cases c : x = st
        · rw [← c]; exact k1
        · exact hO.ntrans _ _ _ k1 (s1 st x (by omega) (by omega) q)
      rw [k2] at e
      cases e
end Go.Proofs.YtdiljpdohmeceaaGreat.so

/- slices: joining two sorted parts of a row of places. -/
namespace Go.Proofs.YtdiljpdohmeceaaGreat.so
open Go.RowKit Go.Sort Go.Lib H
variable {α : Type} [Inhabited α]

def MergePost (enc : α → List Value) (k : Nat) (cf : α → α → Int) (blk off : Nat) (w0 : World) (a b : Nat) (d : Array α) (e : Ending) (w' : World) : Prop := e = .returned (.tuple #[]) ∧ ∃ f, PermIn a b d f ∧ SortedIn (ltOf cf) a b f ∧ SWK enc k w0 blk off f w'
set_option maxHeartbeats 16000000 in
set_option maxRecDepth 1000000 in
theorem merge_most {enc : α → List Value} {k : Nat} {cf : α → α → Int} {g : Nat} {cb : Array Value} {blk off : Nat} {d0 : Array α} {w0 : World} (X : Srt enc k cf g cb blk off d0 w0) (cap a m b : Nat) (d : Array α) (w : World)
    (hs : d.size = d0.size) (S : SWK enc k w0 blk off d w) (ham : a + 1 < m) (hmb : m + 1 < b) (hb : b ≤ d.size) (s1 : SortedIn (ltOf cf) a m d) (s2 : SortedIn (ltOf cf) m b d)
    (ih : ∀ (a' m' b' : Nat) (f : Array α) (wx : World), b' - a' < b - a → f.size = d.size → SWK enc k w0 blk off f wx → a' < m' → m' < b' → b' ≤ d.size → SortedIn (ltOf cf) a' m' f → SortedIn (ltOf cf) m' b' f →
      Calls Tryz.prog 120 #[.slice (some ⟨blk, off, none⟩) d.size cap, .int .i64 a', .int .i64 m', .int .i64 b', .func (.func g) #[] cb] wx (MergePost enc k cf blk off w0 a' b' f)) :
    Calls Tryz.prog 120 #[.slice (some ⟨blk, off, none⟩) d.size cap, .int .i64 a, .int .i64 m, .int .i64 b, .func (.func g) #[] cb] w (MergePost enc k cf blk off w0 a b d) := by
  have mixed : Tryz.prog.follows Departure.mixedOrders = true := by kernel_rfl
  have HX0 := As.mk X
  obtain ⟨aE, zE, eg, hc, R, hO, hz⟩ := X
  have HC : Aside _ := hc
  have HR : Aside _ := R
  have HO : Aside _ := hO
  have S0 : Aside (SWK enc k w0 blk off d w) := S
  have HSS := As.mk (And.intro s1 s2)
  have IH := As.mk ih
  have hsz : d.size < 4611686018427387904 := by rw [hs]; exact hz
  have HS := As.mk hs
  clear S hc R hO s1 s2 hs ih
  have e1 : ((m : Int) - (a : Int) == 1) = false := by simp; omega
  have e2 : ((b : Int) - (m : Int) == 1) = false := by simp; omega
  obtain ⟨mid, hmid⟩ : ∃ mid, (a + b) / 2 = mid := ⟨_, rfl⟩
  have em : ((a : Int) + (b : Int)) / 2 = (mid : Int) := by omega
  have hm2 : 2 * mid ≤ a + b ∧ a + b ≤ 2 * mid + 1 := by omega
  obtain ⟨s0, r0, B⟩ := Bnd.mk' a m b mid (by omega) (by omega) hm2
  obtain ⟨n, hn⟩ : ∃ n, mid + m = n := ⟨_, rfl⟩
  have en : (mid : Int) + (m : Int) = (n : Int) := by omega
  have hn1 : 1 ≤ n := by omega
  obtain ⟨p, hp⟩ : ∃ p, n - 1 = p := ⟨_, rfl⟩
  have ep : (n : Int) - 1 = (p : Int) := by omega
  have HNP := As.mk (show mid + m - 1 = p by omega)
  have HN := As.mk hn
  have HB := As.mk B
  have b1 := B.le.2.1
  have b2 := B.le.2.2.1
  have b3 := B.le.2.2.2.1
  have b4 := B.le.2.2.2.2.1
  have b5 := B.le.2.2.2.2.2
  have hnb : n ≤ 2 * d.size := by omega
  have HSR : As ((mid < m ∧ (n : Int) - (b : Int) = (s0 : Int) ∧ r0 = mid) ∨ (m ≤ mid ∧ s0 = a ∧ r0 = m)) := ⟨by
    rcases B.sr with h | h
    · exact .inl ⟨h.1, by omega, h.2.2⟩
    · exact .inr h⟩
  obtain ⟨dm, hdm⟩ : ∃ dm, decide (mid < m) = dm := ⟨_, rfl⟩
  have HDM := As.mk hdm
  clear hmid hm2 hn hp B
  go_enter Tryz.func120, Tryz.ntmps120
  go_upto_if 140 with fail
  go_cut [20, 21] from 141 to 146 (fun s20 s21 wc => s20 = .int .i64 (s0 : Int) ∧ s21 = .int .i64 (r0 : Int) ∧ w = wc)
  case first =>
    rcases HSR.out with ⟨h1, h2, h3⟩ | ⟨h1, h2, h3⟩
    · have hd : dm = true := by rw [← HDM.out]; exact decide_eq_true h1
      subst hd h3
      clear h1 hdm
      go_wp2_with fail
      go_meet
      exact ⟨rfl, rfl, rfl⟩
    · have hd : dm = false := by rw [← HDM.out]; exact decide_eq_false (by omega)
      have H2 := As.mk h2
      have H3 := As.mk h3
      subst hd
      clear h1 h2 h3 hdm
      go_wp2_with fail
      go_meet
      exact ⟨by rw [H2.out], by rw [H3.out], rfl⟩
  case rest =>
    obtain ⟨rfl, rfl, rfl⟩ := hcut
    clear em
    go_wp2_with fail
    go_loopg [20, 21] (b - a) (fun kx s20 s21 wr => ∃ (i j : Nat), s20 = .int .i64 i ∧ s21 = .int .i64 j ∧ i ≤ j ∧ s0 ≤ i ∧ j ≤ r0 ∧ j - i ≤ kx ∧ Aside (Fnd (ltOf cf) a m b mid s0 r0 i j d ∧ SWK enc k w0 blk off d wr))
    case atStart => exact ⟨s0, r0, rfl, rfl, HB.out.le.1, Nat.le_refl _, Nat.le_refl _, by omega, ⟨Fnd.zero HB.out d, S0.out⟩⟩
    case round =>
      clear S0
      obtain ⟨i, j, rfl, rfl, hij, hs0, hr0, hkx, S1⟩ := hrel
      by_cases hlt : i < j
      · have hltz : (i : Int) < (j : Int) := by omega
        obtain ⟨h, hh⟩ : ∃ h, (i + j) / 2 = h := ⟨_, rfl⟩
        have eh : ((i : Int) + (j : Int)) / 2 = (h : Int) := by omega
        have h1 : i ≤ h := by omega
        have h2 : h < j := by omega
        have hi := HB.out.in_ (x := h) (by omega) (by omega)
        rw [HNP.out] at hi
        obtain ⟨q, hq⟩ : ∃ q, p - h = q := ⟨_, rfl⟩
        rw [hq] at hi
        have eq : IntKind.i64.wrap ((p : Int) - (h : Int)) = (q : Int) := by have := HNP.out; rw [IntKind.wrap_i64]; omega
        have eq0 : (0 : Int) ≤ (q : Int) := by omega
        have HQ := As.mk (show mid + m - 1 - h = q by rw [HNP.out]; exact hq)
        have hqb : q < b := hi.2.2.2.1
        clear hh hi hq
        obtain ⟨xh, hxh⟩ : ∃ x, d[h]! = x := ⟨_, rfl⟩
        obtain ⟨xq, hxq⟩ : ∃ x, d[q]! = x := ⟨_, rfl⟩
        have jz : (h : Int) < (d.size : Int) := by omega
        have jz1 : (q : Int) < (d.size : Int) := by omega
        have lh := S1.out.2.ld HR.out HS.out Tryz.prog h (by omega)
        have la := S1.out.2.ld HR.out HS.out Tryz.prog q (by omega)
        rw [hxh] at lh
        rw [hxq] at la
        have hcg := S1.out.2.cmp HC.out HS.out xq xh
        have HX : Hid (d[h]! = xh ∧ d[q]! = xq) := ⟨hxh, hxq⟩
        clear hxh hxq
        by_cases hlv : cf xq xh < 0
        · go_wp2_with fail
          clear eh
          go_quiet_grown (first | (go_at_fn g; refine Calls.grown_of (hcg _ _)))
          go_wp2
          go_roundg (h - i)
          case measure => omega
          case rel =>
            refine ⟨i, h, rfl, rfl, by omega, hs0, by omega, Nat.le_refl _, ⟨S1.out.1.down HO.out HB.out HSS.out.1 HSS.out.2 h1 h2 ?_, S1.out.2.grown nq osq⟩⟩
            rw [HQ.out, HX.out.1, HX.out.2]; exact decide_eq_true hlv
        · have hq : decide (cf xq xh < 0) = false := decide_eq_false hlv
          go_wp2_with fail
          clear eh
          go_quiet_grown (first | (go_at_fn g; refine Calls.grown_of (hcg _ _)))
          go_wp2
          go_roundg (j - (h + 1))
          case measure => omega
          case rel =>
            refine ⟨h + 1, j, by go_num, rfl, by omega, by omega, hr0, Nat.le_refl _, ⟨S1.out.1.up HO.out HB.out HSS.out.1 HSS.out.2 h1 h2 ?_, S1.out.2.grown nq osq⟩⟩
            rw [HQ.out, HX.out.1, HX.out.2]; exact decide_eq_false (by omega)
      · obtain rfl : i = j := by omega
        have hltz : ¬ (i : Int) < (i : Int) := by omega
        obtain ⟨en', hen⟩ : ∃ x, n - i = x := ⟨_, rfl⟩
        have hin : i + en' = mid + m := by have := HN.out; omega
        have C := S1.out.1.cut HO.out HB.out HSS.out.1 HSS.out.2 hin
        have ee : (n : Int) - (i : Int) = (en' : Int) := by have := HN.out; omega
        have c1 := C.am
        have c2 := C.mb
        have HCC := As.mk C
        have S3 : Aside _ := S1.out.2
        clear S1 hlt hen hin C
        go_upto_region 39 with fail
        obtain ⟨c39, hc39⟩ : ∃ c, decide (i < m ∧ m < en') = c := ⟨_, rfl⟩
        have HC39 := As.mk hc39
        clear hc39
        go_cut [185] from 178 to 185 (fun v wz => v = .bool c39 ∧ wr = wz)
        case first =>
          by_cases q1 : i < m
          · by_cases q2 : m < en'
            · have q1z : (i : Int) < (m : Int) := by omega
              have q2z : (m : Int) < (en' : Int) := by omega
              have e : c39 = true := by rw [← HC39.out]; exact decide_eq_true ⟨q1, q2⟩
              subst e
              clear q1 q2
              go_wp2_with fail
              go_meet
              exact ⟨rfl, rfl⟩
            · have q1z : (i : Int) < (m : Int) := by omega
              have q2z : ¬ (m : Int) < (en' : Int) := by omega
              have e : c39 = false := by rw [← HC39.out]; exact decide_eq_false (fun h => q2 h.2)
              subst e
              clear q1 q2
              go_wp2_with fail
              go_meet
              exact ⟨rfl, rfl⟩
          · have q1z : ¬ (i : Int) < (m : Int) := by omega
            have e : c39 = false := by rw [← HC39.out]; exact decide_eq_false (fun h => q1 h.1)
            subst e
            clear q1
            go_wp2_with fail
            go_meet
            exact ⟨rfl, rfl⟩
        case rest =>
          obtain ⟨rfl, rfl⟩ := hcut
          go_upto_if 185 with fail
          go_cut [] from 186 to 191 (fun wc => ∃ f, As (Rot i m en' d f ∧ PermIn a b d f ∧ SWK enc k w0 blk off f wc))
          case first =>
            cases c39
            · have q : i = m ∨ m = en' := by
                have := of_decide_eq_false HC39.out
                omega
              have HF := As.mk (And.intro (Rot.none d q (by omega)) (And.intro (permIn_refl d a b) S3.out))
              clear q
              go_wp2_with fail
              go_meet
              exact ⟨d, HF⟩
            · have H1 : As (Calls Tryz.prog 129 #[.slice (some ⟨blk, off, none⟩) d.size cap, .int .i64 i, .int .i64 m, .int .i64 en', .func (.func g) #[] cb] wr fun e w' => e = .returned (.tuple #[]) ∧ As (∃ f, Rot i m en' d f ∧ PermIn a b d f ∧ SWK enc k w0 blk off f w')) := ⟨by
                have q := of_decide_eq_true HC39.out
                refine (rotate_any k HX0.out.aE HX0.out.zE enc (.func (.func g) #[] cb) blk off cap i m en' d0 d w0 wr HR.out HS.out.symm S3.out q.1 q.2 (by omega) hsz).mono ?_
                rintro e w' ⟨rfl, f, h1, h2, h3⟩
                exact ⟨rfl, ⟨f, h1, permIn_mono d f i en' a b (by omega) (by omega) hb h2, h3⟩⟩⟩
              clear S3
              go_wp2_with (go_at_call 129; refine H1.out.mono ?_; rintro e w1 ⟨rfl, HF⟩; clear H1)
              go_meet
              obtain ⟨f, hf⟩ := HF.out
              exact ⟨f, ⟨hf⟩⟩
          case rest =>
            obtain ⟨f, HF⟩ := hcut
            have HH := As.mk (HCC.out.halves HO.out HSS.out.1 HSS.out.2 HF.out.1)
            have HFS := As.mk (show f.size = d.size from HF.out.2.1.1)
            go_upto_region 41 with fail
            obtain ⟨c41, hc41⟩ : ∃ c, decide (a < i ∧ i < mid) = c := ⟨_, rfl⟩
            have HC41 := As.mk hc41
            clear hc41
            go_cut [199] from 192 to 199 (fun v wz => v = .bool c41 ∧ wc = wz)
            case first =>
              by_cases q1 : a < i
              · by_cases q2 : i < mid
                · have q1z : (a : Int) < (i : Int) := by omega
                  have q2z : (i : Int) < (mid : Int) := by omega
                  have e : c41 = true := by rw [← HC41.out]; exact decide_eq_true ⟨q1, q2⟩
                  subst e
                  clear q1 q2
                  go_wp2_with fail
                  go_meet
                  exact ⟨rfl, rfl⟩
                · have q1z : (a : Int) < (i : Int) := by omega
                  have q2z : ¬ (i : Int) < (mid : Int) := by omega
                  have e : c41 = false := by rw [← HC41.out]; exact decide_eq_false (fun h => q2 h.2)
                  subst e
                  clear q1 q2
                  go_wp2_with fail
                  go_meet
                  exact ⟨rfl, rfl⟩
              · have q1z : ¬ (a : Int) < (i : Int) := by omega
                have e : c41 = false := by rw [← HC41.out]; exact decide_eq_false (fun h => q1 h.1)
                subst e
                clear q1
                go_wp2_with fail
                go_meet
                exact ⟨rfl, rfl⟩
            case rest =>
              obtain ⟨rfl, rfl⟩ := hcut
              go_upto_if 199 with fail
              go_cut [] from 200 to 205 (fun wx => ∃ (f1 : Array α) (wd : World), wd = wx ∧ As (PermIn a mid f f1 ∧ SortedIn (ltOf cf) a mid f1 ∧ SWK enc k w0 blk off f1 wd))
              case first =>
                cases c41
                · have HG : As (PermIn a mid f f ∧ SortedIn (ltOf cf) a mid f ∧ SWK enc k w0 blk off f wc) := ⟨permIn_refl f a mid, by
                    have := of_decide_eq_false HC41.out
                    by_cases q : a < i
                    · exact SortedIn.part HH.out.s1 (Nat.le_refl _) (by omega)
                    · exact SortedIn.part HH.out.s2 (by omega) (Nat.le_refl _), HF.out.2.2⟩
                  go_wp2_with fail
                  go_meet
                  exact ⟨f, _, rfl, HG⟩
                · have H1 : As (Calls Tryz.prog 120 #[.slice (some ⟨blk, off, none⟩) d.size cap, .int .i64 a, .int .i64 i, .int .i64 mid, .func (.func g) #[] cb] wc (MergePost enc k cf blk off w0 a mid f)) := ⟨by
                    have q := of_decide_eq_true HC41.out
                    exact IH.out a i mid f wc (by omega) HFS.out HF.out.2.2 q.1 q.2 (by omega) HH.out.s1 HH.out.s2⟩
                  go_wp2_with (go_at_call 120; refine H1.out.mono ?_; rintro e w1 ⟨rfl, HG⟩; have HG2 := As.mk HG; clear H1 HG)
                  go_meet
                  obtain ⟨f1, h1, h2, h3⟩ := HG2.out
                  exact ⟨f1, _, rfl, ⟨h1, h2, h3⟩⟩
              case rest =>
                obtain ⟨f1, wd, rfl, HG⟩ := hcut
                have HGS := As.mk (show f1.size = d.size from HG.out.1.1.trans HFS.out)
                have FIN : As (∀ f2 wz, PermIn mid b f1 f2 → SortedIn (ltOf cf) mid b f2 → SWK enc k w0 blk off f2 wz → ∃ f, PermIn a b d f ∧ SortedIn (ltOf cf) a b f ∧ SWK enc k w0 blk off f wz) := ⟨fun f2 wz p2 t2 h3 =>
                  ⟨f2, permIn_trans _ _ _ a b (permIn_trans _ _ _ a b HF.out.2.1 (permIn_mono f f1 a mid a b (Nat.le_refl _) (by omega) (by rw [HFS.out]; exact hb) HG.out.1)) (permIn_mono f1 f2 mid b a b (by omega) (Nat.le_refl _) (by rw [HGS.out]; exact hb) p2),
                    HH.out.join (by omega) (by rw [HFS.out]; exact hb) HG.out.1 HG.out.2.1 p2 t2, h3⟩⟩
                go_upto_region 43 with fail
                obtain ⟨c43, hc43⟩ : ∃ c, decide (mid < en' ∧ en' < b) = c := ⟨_, rfl⟩
                have HC43 := As.mk hc43
                clear hc43
                go_cut [213] from 206 to 213 (fun v wz => v = .bool c43 ∧ wd = wz)
                case first =>
                  by_cases q1 : mid < en'
                  · by_cases q2 : en' < b
                    · have q1z : (mid : Int) < (en' : Int) := by omega
                      have q2z : (en' : Int) < (b : Int) := by omega
                      have e : c43 = true := by rw [← HC43.out]; exact decide_eq_true ⟨q1, q2⟩
                      subst e
                      clear q1 q2
                      go_wp2_with fail
                      go_meet
                      exact ⟨rfl, rfl⟩
                    · have q1z : (mid : Int) < (en' : Int) := by omega
                      have q2z : ¬ (en' : Int) < (b : Int) := by omega
                      have e : c43 = false := by rw [← HC43.out]; exact decide_eq_false (fun h => q2 h.2)
                      subst e
                      clear q1 q2
                      go_wp2_with fail
                      go_meet
                      exact ⟨rfl, rfl⟩
                  · have q1z : ¬ (mid : Int) < (en' : Int) := by omega
                    have e : c43 = false := by rw [← HC43.out]; exact decide_eq_false (fun h => q1 h.1)
                    subst e
                    clear q1
                    go_wp2_with fail
                    go_meet
                    exact ⟨rfl, rfl⟩
                case rest =>
                  obtain ⟨rfl, rfl⟩ := hcut
                  cases c43
                  · have HZ : As (∃ f, PermIn a b d f ∧ SortedIn (ltOf cf) a b f ∧ SWK enc k w0 blk off f wd) := ⟨FIN.out f1 wd (permIn_refl f1 mid b) (by
                      have := of_decide_eq_false HC43.out
                      by_cases q : mid < en'
                      · exact SortedIn.part (SortedIn.out HH.out.s3 HG.out.1 (.inr (Nat.le_refl _))) (Nat.le_refl _) (by omega)
                      · exact SortedIn.part (SortedIn.out HH.out.s4 HG.out.1 (.inr (by omega))) (by omega) (Nat.le_refl _)) HG.out.2.2⟩
                    go_wp2_with fail
                    go_end0
                    exact ⟨rfl, HZ.out⟩
                  · have H1 : As (Calls Tryz.prog 120 #[.slice (some ⟨blk, off, none⟩) d.size cap, .int .i64 mid, .int .i64 en', .int .i64 b, .func (.func g) #[] cb] wd (MergePost enc k cf blk off w0 mid b f1)) := ⟨by
                      have q := of_decide_eq_true HC43.out
                      exact IH.out mid en' b f1 wd (by omega) HGS.out HG.out.2.2 q.1 q.2 hb (SortedIn.out HH.out.s3 HG.out.1 (.inr (Nat.le_refl _))) (SortedIn.out HH.out.s4 HG.out.1 (.inr (by omega)))⟩
                    go_wp2_with (go_at_call 120; refine H1.out.mono ?_; rintro e w1 ⟨rfl, HY⟩; have HG2 := As.mk HY; clear H1 HY)
                    go_end0
                    obtain ⟨f2, h1, h2, h3⟩ := HG2.out
                    exact ⟨rfl, FIN.out f2 _ h1 h2 h3⟩

theorem merge_any {enc : α → List Value} {k : Nat} {cf : α → α → Int} {g : Nat} {cb : Array Value} {blk off : Nat} {d0 : Array α} {w0 : World} (X : Srt enc k cf g cb blk off d0 w0) (cap : Nat) :
    ∀ (N a m b : Nat) (d : Array α) (w : World), b - a < N → d.size = d0.size → SWK enc k w0 blk off d w → a < m → m < b → b ≤ d.size → SortedIn (ltOf cf) a m d → SortedIn (ltOf cf) m b d →
    Calls Tryz.prog 120 #[.slice (some ⟨blk, off, none⟩) d.size cap, .int .i64 a, .int .i64 m, .int .i64 b, .func (.func g) #[] cb] w (MergePost enc k cf blk off w0 a b d) := by
  intro N
  induction N with
  | zero => intro a m b d w h; omega
  | succ N ih =>
    intro a m b d w hN hs S ham hmb hb s1 s2
    by_cases h1 : m ≤ a + 1
    · exact merge_first X cap a m b d w hs S ham h1 hmb hb s2
    · by_cases h2 : b ≤ m + 1
      · exact merge_last X cap a m b d w hs S (by omega) hmb h2 hb s1
      · refine merge_most X cap a m b d w hs S (by omega) (by omega) hb s1 s2 (fun a' m' b' f wx h3 h4 h5 h6 h7 h8 h9 h10 => ?_)
        have := ih a' m' b' f wx (by omega) (h4.trans hs) h5 h6 h7 (by omega) h9 h10
        rwa [h4] at this
end Go.Proofs.YtdiljpdohmeceaaGreat.so

/- slices: the insertion sort of a part of a row of places. -/
namespace Go.Proofs.YtdiljpdohmeceaaGreat.so
open Go.RowKit Go.Sort Go.Lib H
variable {α : Type} [Inhabited α]

set_option maxHeartbeats 16000000 in
set_option maxRecDepth 1000000 in
theorem insert_any {enc : α → List Value} {k : Nat} {cf : α → α → Int} {g : Nat} {cb : Array Value} {blk off : Nat} {d0 : Array α} {w0 : World} (X : Srt enc k cf g cb blk off d0 w0) (cap a b : Nat) (d : Array α) (w : World)
    (hs : d.size = d0.size) (S : SWK enc k w0 blk off d w) (hab : a ≤ b) (hb : b ≤ d.size) :
    Calls Tryz.prog 119 #[.slice (some ⟨blk, off, none⟩) d.size cap, .int .i64 a, .int .i64 b, .func (.func g) #[] cb] w fun e w' => e = .returned (.tuple #[]) ∧ ∃ f, PermIn a b d f ∧ SortedIn (ltOf cf) a b f ∧ SWK enc k w0 blk off f w' := by
  have mixed : Tryz.prog.follows Departure.mixedOrders = true := by kernel_rfl
  obtain ⟨aE, zE, eg, hc, R, hO, hz⟩ := X
  have HC : Aside _ := hc
  have HR : Aside _ := R
  have HO : Aside _ := hO
  have S0 : Aside (SWK enc k w0 blk off d w) := S
  have hsz : d.size < 4611686018427387904 := by rw [hs]; exact hz
  have HS := As.mk hs
  clear S hc R hO hs
  go_enter Tryz.func119, Tryz.ntmps119
  go_wp2
  go_loopg [8] (b - a) (fun g1 vi wr => ∃ (i : Nat) (dk : Array α), vi = .int .i64 i ∧ a < i ∧ i ≤ b + 1 ∧ b + 1 - i ≤ g1 + 1 ∧ Aside (dk.size = d.size ∧ SWK enc k w0 blk off dk wr ∧ insOuter (ltOf cf) a b i dk = insOuter (ltOf cf) a b (a + 1) d))
  case atStart => exact ⟨a + 1, d, by go_num, by omega, by omega, by omega, ⟨rfl, S0.out, rfl⟩⟩
  case round =>
    clear S0
    obtain ⟨i, dk, rfl, hai, hib, hg1, HI⟩ := hrel
    by_cases hlt : i < b
    · have hltz : (i : Int) < (b : Int) := by omega
      go_wp2
      go_loopg [9] i (fun g2 vj wr2 => ∃ (j : Nat) (dj : Array α), vj = .int .i64 j ∧ a ≤ j ∧ j ≤ i ∧ j ≤ g2 ∧ Aside (dj.size = d.size ∧ SWK enc k w0 blk off dj wr2 ∧ insInner (ltOf cf) a j dj = insInner (ltOf cf) a i dk))
      case atStart => exact ⟨i, dk, rfl, by omega, Nat.le_refl _, Nat.le_refl _, ⟨HI.out.1, HI.out.2.1, rfl⟩⟩
      case round =>
        obtain ⟨j, dj, rfl, haj, hji, hg2, HJ⟩ := hrel
        have OUT : As ((j ≤ a ∨ ltOf cf dj[j]! dj[j - 1]! = false) → insOuter (ltOf cf) a b (i + 1) dj = insOuter (ltOf cf) a b (a + 1) d) := ⟨fun hs => by
          rw [← HI.out.2.2, insOuter_go _ _ _ _ _ hlt, ← HJ.out.2.2, insInner_stop _ _ _ _ hs]⟩
        by_cases hja : a < j
        · have hjaz : (a : Int) < (j : Int) := by omega
          obtain ⟨v, hv⟩ : ∃ v, j - 1 = v := ⟨_, rfl⟩
          have HV := As.mk hv
          have ev : IntKind.i64.wrap ((j : Int) - 1) = (v : Int) := by rw [IntKind.wrap_i64]; omega
          have iv1 : a ≤ v := by omega
          have hvj : v < j := by omega
          have hjd : j < d.size := by omega
          have ev0 : (0 : Int) ≤ (v : Int) := by omega
          clear hv
          obtain ⟨xj, hxj⟩ : ∃ x, dj[j]! = x := ⟨_, rfl⟩
          obtain ⟨xp, hxp⟩ : ∃ x, dj[v]! = x := ⟨_, rfl⟩
          have jz : (j : Int) < (d.size : Int) := by omega
          have jz1 : (v : Int) < (d.size : Int) := by omega
          have lj := HJ.out.2.1.ld HR.out (by rw [HJ.out.1, HS.out]) Tryz.prog j (by rw [HJ.out.1]; omega)
          have lp := HJ.out.2.1.ld HR.out (by rw [HJ.out.1, HS.out]) Tryz.prog v (by rw [HJ.out.1]; omega)
          rw [hxj] at lj
          rw [hxp] at lp
          have hcg := HJ.out.2.1.cmp HC.out (by rw [HJ.out.1, HS.out]) xj xp
          have HX : Hid (dj[j]! = xj ∧ dj[v]! = xp) := ⟨hxj, hxp⟩
          clear hxj hxp
          by_cases hlv : cf xj xp < 0
          · go_wp2_with fail
            go_quiet_grown (first | (go_at_fn g; refine Calls.grown_of (hcg _ _)))
            go_wp2_with fail
            have SG : Aside (SWK enc k w0 blk off dj (grow (wr.drewN nq) osq)) := HJ.out.2.1.grown nq osq
            clear lj lp hcg
            generalize grow (wr.drewN nq) osq = wq at SG ⊢
            have S2 : Aside (SWK enc k w0 blk off (swp dj j v) ((wq.drew.setCells blk (off + j * k) (enc dj[v]!)).setCells blk (off + v * k) (enc dj[j]!))) := SG.out.swapped HR.out j v (by rw [HJ.out.1]; omega) (by rw [HJ.out.1]; omega)
            have l44a := SG.out.ld1 HR.out (by rw [HJ.out.1, HS.out]) Tryz.prog j (by rw [HJ.out.1]; omega)
            have l44b := SG.out.ld1 HR.out (by rw [HJ.out.1, HS.out]) Tryz.prog v (by rw [HJ.out.1]; omega)
            have s44a := SG.out.st1 HR.out (by rw [HJ.out.1, HS.out]) Tryz.prog j (by rw [HJ.out.1]; omega) dj[v]!
            have s44b := SG.out.st2 HR.out (by rw [HJ.out.1, HS.out]) Tryz.prog j v (by rw [HJ.out.1]; omega) (by rw [HJ.out.1]; omega) dj[v]! dj[j]!
            have n44a : (enc dj[j]!).length = k := HR.out.hk _
            have n44b : (enc dj[v]!).length = k := HR.out.hk _
            generalize enc dj[j]! = cI44 at S2 l44a s44b n44a
            generalize enc dj[v]! = cJ44 at S2 l44b s44a s44b n44b
            clear SG
            go_wp2_with fail
            go_big_region_o
            clear l44a l44b s44a s44b
            generalize (wq.drew.setCells blk (off + j * k) cJ44).setCells blk (off + v * k) cI44 = w2 at S2 ⊢
            have ev2 : (j : Int) - 1 = (v : Int) := by have := HV.out; omega
            go_wp2
            go_roundg v
            case measure => omega
            case rel =>
              refine ⟨v, swp dj j v, rfl, iv1, by omega, Nat.le_refl _, ⟨by rw [size_swp]; exact HJ.out.1, S2.out, ?_⟩⟩
              have e := insInner_go (ltOf cf) a j dj hja (by rw [HV.out, HX.out.1, HX.out.2]; exact decide_eq_true hlv)
              rw [HV.out] at e
              rw [← HJ.out.2.2, e]
          · have hq : decide (cf xj xp < 0) = false := decide_eq_false hlv
            go_wp2_with fail
            go_quiet_grown (first | (go_at_fn g; refine Calls.grown_of (hcg _ _)))
            go_wp2
            go_roundg (b - (i + 1))
            case measure => omega
            case rel => exact ⟨i + 1, dj, by go_num, by omega, by omega, by omega, ⟨HJ.out.1, HJ.out.2.1.grown nq osq, OUT.out (Or.inr (by rw [HV.out, HX.out.1, HX.out.2]; exact decide_eq_false (by omega)))⟩⟩
        · have hjaz : decide ((j : Int) > (a : Int)) = false := decide_eq_false (by omega)
          have hjaz' : ¬ (a : Int) < (j : Int) := by omega
          have hjaz3 : decide (a < j) = false := decide_eq_false (by omega)
          have HE := As.mk (OUT.out (Or.inl (by omega)))
          clear OUT hja
          go_wp2_with fail
          go_big_region_o
          all_goals go_wp2
          go_roundg (b - (i + 1))
          case measure => omega
          case rel => exact ⟨i + 1, dj, by go_num, by omega, by omega, by omega, ⟨HJ.out.1, HJ.out.2.1.drew, HE.out⟩⟩
    · have hltz : ¬ (i : Int) < (b : Int) := by omega
      go_wp2
      go_end0
      have e : insertionSort (ltOf cf) d a b = dk := by unfold insertionSort; rw [← HI.out.2.2, insOuter_stop _ _ _ _ _ hlt]
      have h := insertionSort_holds HO.out d a b hab hb
      rw [e] at h
      exact ⟨rfl, dk, h.1, h.2, HI.out.2.1⟩
end Go.Proofs.YtdiljpdohmeceaaGreat.so

/- slices: the stable sort of a row of places. -/
namespace Go.Proofs.YtdiljpdohmeceaaGreat.so
open Go.RowKit Go.Sort Go.Lib H
variable {α : Type} [Inhabited α]

theorem Blk.mono {lt : α → α → Bool} {s lo lo2 n : Nat} {d : Array α} (h : Blk lt s lo n d) (hl : lo ≤ lo2) : Blk lt s lo2 n d := fun x h1 h2 h3 => h x (by omega) h2 h3
set_option maxHeartbeats 16000000 in
set_option maxRecDepth 1000000 in
theorem stable_any {enc : α → List Value} {k : Nat} {cf : α → α → Int} {g : Nat} {cb : Array Value} {blk off : Nat} {d0 : Array α} {w0 : World} (X : Srt enc k cf g cb blk off d0 w0) (cap n : Nat) (d : Array α) (w : World)
    (hs : d.size = d0.size) (hn : n = d.size) (hn40 : n ≤ 1099511627776) (S : SWK enc k w0 blk off d w) :
    Calls Tryz.prog 92 #[.slice (some ⟨blk, off, none⟩) n cap, .int .i64 n, .func (.func g) #[] cb] w fun e w' => e = .returned (.tuple #[]) ∧ ∃ f, PermIn 0 n d f ∧ SortedIn (ltOf cf) 0 n f ∧ SWK enc k w0 blk off f w' := by
  have HI : As (∀ (a b : Nat) (dk : Array α) (wr : World), dk.size = n → SWK enc k w0 blk off dk wr → a ≤ b → b ≤ n → Calls Tryz.prog 119 #[.slice (some ⟨blk, off, none⟩) n cap, .int .i64 a, .int .i64 b, .func (.func g) #[] cb] wr fun e w' => e = .returned (.tuple #[]) ∧ As (∃ f, PermIn a b dk f ∧ SortedIn (ltOf cf) a b f ∧ SWK enc k w0 blk off f w')) := ⟨fun a b dk wr h1 h2 h3 h4 => by
    have := insert_any X cap a b dk wr (by omega) h2 h3 (by omega)
    rw [h1] at this
    exact this.mono (fun e w' h => ⟨h.1, ⟨h.2⟩⟩)⟩
  have HM : As (∀ (a m b : Nat) (dk : Array α) (wr : World), dk.size = n → SWK enc k w0 blk off dk wr → a < m → m < b → b ≤ n → SortedIn (ltOf cf) a m dk → SortedIn (ltOf cf) m b dk → Calls Tryz.prog 120 #[.slice (some ⟨blk, off, none⟩) n cap, .int .i64 a, .int .i64 m, .int .i64 b, .func (.func g) #[] cb] wr fun e w' => e = .returned (.tuple #[]) ∧ As (∃ f, PermIn a b dk f ∧ SortedIn (ltOf cf) a b f ∧ SWK enc k w0 blk off f w')) := ⟨fun a m b dk wr h1 h2 h3 h4 h5 h6 h7 => by
    have := merge_any X cap (b - a + 1) a m b dk wr (by omega) (by omega) h2 h3 h4 (by omega) h6 h7
    rw [h1] at this
    exact this.mono (fun e w' h => ⟨h.1, ⟨h.2⟩⟩)⟩
  have hsz : n < 4611686018427387904 := by rw [hn, hs]; exact X.hz
  have HN := As.mk hn
  have S0 : As (PermIn 0 n d d ∧ Bel (ltOf cf) 20 0 n d ∧ SWK enc k w0 blk off d w) := ⟨permIn_refl d 0 n, Bel.zero 20 n d, S⟩
  clear S hs hn X
  go_enter Tryz.func92, Tryz.ntmps92
  go_wp2
  go_loopg [7, 8] (n + 20) (fun kx s7 s8 wr => ∃ (a b : Nat) (dk : Array α), s7 = .int .i64 a ∧ s8 = .int .i64 b ∧ a ≤ n ∧ a < b ∧ b ≤ n + 20 ∧ n + 21 - b ≤ kx ∧ As (b = a + 20 ∧ 20 ∣ a) ∧ As (PermIn 0 n d dk ∧ Bel (ltOf cf) 20 a n dk ∧ SWK enc k w0 blk off dk wr))
  case atStart => exact ⟨0, 20, d, rfl, rfl, by omega, by omega, by omega, by omega, ⟨rfl, ⟨0, rfl⟩⟩, S0⟩
  case round =>
    clear S0
    obtain ⟨a, b, dk, rfl, rfl, han, hab, hbn, hkx, HE, HD⟩ := hrel
    by_cases hlt : b ≤ n
    · have hltz : (b : Int) ≤ (n : Int) := by omega
      have H1 := As.mk (HI.out a b dk wr (HD.out.1.1.trans HN.out.symm) HD.out.2.2 (by omega) hlt)
      go_wp2_with (go_at_call 119; refine H1.out.mono ?_; rintro e w1 ⟨rfl, HF⟩; clear H1)
      go_roundg (n + 1 - b)
      case measure => have := HE.out.1; omega
      case rel =>
        obtain ⟨f, h1, h2, h3⟩ := HF.out
        have e := HE.out
        have hm : min (a + 20) n = b := by omega
        refine ⟨b, b + 20, f, rfl, by go_num, hlt, by omega, by omega, by omega, ⟨rfl, by rw [e.1]; exact Nat.dvd_add e.2 ⟨1, rfl⟩⟩, ⟨permIn_trans _ _ _ 0 n HD.out.1 (permIn_mono dk f a b 0 n (by omega) hlt (by rw [HD.out.1.1, ← HN.out]; omega) h1), ?_, h3⟩⟩
        have := HD.out.2.1.next e.2 (by rw [hm]; exact h1) (by rw [hm]; exact h2)
        rwa [← e.1] at this
    · have hltz : ¬ (b : Int) ≤ (n : Int) := by omega
      have H1 := As.mk (HI.out a n dk wr (HD.out.1.1.trans HN.out.symm) HD.out.2.2 (by omega) (Nat.le_refl _))
      clear HI
      go_upto_region 7 with (go_at_call 119; refine H1.out.mono ?_; rintro e w1 ⟨rfl, HF⟩; clear H1)
      have S1 : As (∃ f, PermIn 0 n d f ∧ Blk (ltOf cf) 20 0 n f ∧ SWK enc k w0 blk off f w1) := ⟨by
        obtain ⟨f, h1, h2, h3⟩ := HF.out
        have e := HE.out
        have hm : min (a + 20) n = n := by omega
        have h4 := HD.out.2.1.next e.2 (by rw [hm]; exact h1) (by rw [hm]; exact h2)
        exact ⟨f, permIn_trans _ _ _ 0 n HD.out.1 (permIn_mono dk f a n 0 n (by omega) (Nat.le_refl _) (by rw [HD.out.1.1, ← HN.out]; omega) h1), h4.blk (by omega), h3⟩⟩
      clear HF HD HE hltz hlt hkx
      go_loopg [6] (2 * n + 1) (fun kx s6 wr => ∃ (s : Nat) (dk : Array α), s6 = .int .i64 s ∧ 1 ≤ s ∧ s ≤ 2 * n + 20 ∧ 2 * n + 21 - s ≤ kx + 20 ∧ As (PermIn 0 n d dk ∧ Blk (ltOf cf) s 0 n dk ∧ SWK enc k w0 blk off dk wr))
      case atStart => obtain ⟨f, h⟩ := S1.out; exact ⟨20, f, rfl, by omega, by omega, by omega, ⟨h⟩⟩
      case round =>
        clear S1
        obtain ⟨s, dk, rfl, hs1, hs2, hkx, HD⟩ := hrel
        obtain ⟨t, ht⟩ : ∃ t, 2 * s = t := ⟨_, rfl⟩
        have HT := As.mk ht
        have et : (2 : Int) * (s : Int) = (t : Int) := by omega
        have et2 : (s : Int) * (2 : Int) = (t : Int) := by omega
        have hts : s < t := by omega
        have htb : t ≤ 4 * n + 40 := by omega
        clear ht
        by_cases hlt : s < n
        · have hltz : (s : Int) < (n : Int) := by omega
          go_wp2_with fail
          go_loopg [7, 8] (n + t) (fun kx s7 s8 wr => ∃ (a b : Nat) (dj : Array α), s7 = .int .i64 a ∧ s8 = .int .i64 b ∧ a ≤ n ∧ a < b ∧ b ≤ n + t ∧ n + t + 1 - b ≤ kx ∧ As (b = a + t ∧ 2 * s ∣ a) ∧ As (PermIn 0 n d dj ∧ Bel (ltOf cf) (2 * s) a n dj ∧ Blk (ltOf cf) s a n dj ∧ SWK enc k w0 blk off dj wr))
          case atStart => exact ⟨0, t, dk, rfl, rfl, by omega, by omega, by omega, by omega, ⟨by omega, ⟨0, rfl⟩⟩, ⟨HD.out.1, Bel.zero _ _ _, HD.out.2.1, HD.out.2.2⟩⟩
          case round =>
            clear HD
            obtain ⟨a, b, dj, rfl, rfl, han, hab, hbn, hky, HE, HG⟩ := hrel
            obtain ⟨m, hm⟩ : ∃ m, a + s = m := ⟨_, rfl⟩
            have em : (a : Int) + (s : Int) = (m : Int) := by omega
            have HMM := As.mk hm
            have hma : a < m := by omega
            have hmb : m < b := by have := HE.out.1; omega
            clear hm
            have HSZ := As.mk (show dj.size = n from HG.out.1.1.trans HN.out.symm)
            have HS1 : As (m ≤ n → SortedIn (ltOf cf) a m dj) := ⟨fun h => by
              have e := HE.out
              have hd : s ∣ a := Nat.dvd_trans ⟨2, by omega⟩ e.2
              have := HG.out.2.2.1 a (Nat.le_refl _) (by omega) hd
              rwa [HMM.out, show min m n = m by omega] at this⟩
            have HS2 : As (m < n → SortedIn (ltOf cf) m (min b n) dj) := ⟨fun h => by
              have e := HE.out
              have hd : s ∣ a := Nat.dvd_trans ⟨2, by omega⟩ e.2
              have := HG.out.2.2.1 m (by omega) h (by rw [← HMM.out]; exact Nat.dvd_add hd ⟨1, by omega⟩)
              rwa [show m + s = b by have := HMM.out; have := HT.out; omega] at this⟩
            by_cases hlt : b ≤ n
            · have hltz : (b : Int) ≤ (n : Int) := by omega
              have H1 := As.mk (HM.out a m b dj wr HSZ.out HG.out.2.2.2 hma hmb hlt (HS1.out (by omega)) (by have := HS2.out (by omega); rwa [show min b n = b by omega] at this))
              go_wp2_with (go_at_call 120; refine H1.out.mono ?_; rintro e w1 ⟨rfl, HF⟩; clear H1)
              go_roundg (n + 1 - b)
              case measure => omega
              case rel =>
                obtain ⟨f, h1, h2, h3⟩ := HF.out
                have e := HE.out
                have hm : min (a + 2 * s) n = b := by have := HT.out; omega
                refine ⟨b, b + t, f, rfl, by go_num, hlt, by omega, by omega, by omega, ⟨rfl, by rw [e.1, ← HT.out]; exact Nat.dvd_add e.2 ⟨1, by omega⟩⟩, ⟨permIn_trans _ _ _ 0 n HG.out.1 (permIn_mono dj f a b 0 n (by omega) hlt (by rw [HSZ.out]; omega) h1), ?_, (HG.out.2.2.1.mono (by omega)).out h1 (Nat.le_refl _), h3⟩⟩
                have := HG.out.2.1.next e.2 (by rw [hm]; exact h1) (by rw [hm]; exact h2)
                rwa [show a + 2 * s = b by have := HT.out; omega] at this
            · have hltz : ¬ (b : Int) ≤ (n : Int) := by omega
              by_cases hmn : m < n
              · have hmz : (m : Int) < (n : Int) := by omega
                have H1 := As.mk (HM.out a m n dj wr HSZ.out HG.out.2.2.2 hma hmn (Nat.le_refl _) (HS1.out (by omega)) (by have := HS2.out (by omega); rwa [show min b n = n by omega] at this))
                go_wp2_with (go_at_call 120; refine H1.out.mono ?_; rintro e w1 ⟨rfl, HF⟩; clear H1)
                go_roundg (2 * n + 1 - t)
                case measure => omega
                case rel =>
                  obtain ⟨f, h1, h2, h3⟩ := HF.out
                  have e := HE.out
                  have hm : min (a + 2 * s) n = n := by have := HT.out; omega
                  refine ⟨t, f, rfl, by omega, by have := HT.out; omega, by omega, ⟨permIn_trans _ _ _ 0 n HG.out.1 (permIn_mono dj f a n 0 n (by omega) (Nat.le_refl _) (by rw [HSZ.out]; omega) h1), ?_, h3⟩⟩
                  have := (HG.out.2.1.next e.2 (by rw [hm]; exact h1) (by rw [hm]; exact h2)).blk (by have := HT.out; omega)
                  rwa [HT.out] at this
              · have hmz : ¬ (m : Int) < (n : Int) := by omega
                go_wp2_with fail
                go_roundg (2 * n + 1 - t)
                case measure => omega
                case rel =>
                  have e := HE.out
                  refine ⟨t, dj, rfl, by omega, by have := HT.out; omega, by omega, ⟨HG.out.1, ?_, HG.out.2.2.2⟩⟩
                  have := HG.out.2.1.rest HG.out.2.2.1 e.2 (by have := HMM.out; omega)
                  rwa [HT.out] at this
        · have hltz : ¬ (s : Int) < (n : Int) := by omega
          go_wp2_with fail
          go_end0
          refine ⟨rfl, dk, HD.out.1, ?_, HD.out.2.2⟩
          by_cases h0 : n = 0
          · exact sorted_one 0 n dk (by omega)
          · have := HD.out.2.1 0 (Nat.le_refl _) (by omega) ⟨0, rfl⟩
            exact SortedIn.part this (Nat.le_refl _) (by omega)
end Go.Proofs.YtdiljpdohmeceaaGreat.so

/- coord: how two places are compared: the comparison that Hear hands to slices.SortStableFunc. -/
namespace Go.Proofs.YtdiljpdohmeceaaGreat.so
open Go.RowKit Go.Sort Go.Lib H O opk frame wir co

theorem lex_tri : ∀ (a b : List Int), a < b ∨ a = b ∨ b < a
  | [], [] => .inr (.inl rfl)
  | [], _ :: _ => .inl (List.nil_lt_cons _ _)
  | _ :: _, [] => .inr (.inr (List.nil_lt_cons _ _))
  | x :: a, y :: b => by
    rcases Int.lt_trichotomy x y with h | h | h
    · exact .inl (List.cons_lt_cons_iff.2 (.inl h))
    · subst h
      rcases lex_tri a b with e | e | e
      · exact .inl (List.cons_lt_cons_iff.2 (.inr ⟨rfl, e⟩))
      · exact .inr (.inl (by rw [e]))
      · exact .inr (.inr (List.cons_lt_cons_iff.2 (.inr ⟨rfl, e⟩)))
    · exact .inr (.inr (List.cons_lt_cons_iff.2 (.inl h)))
theorem lex_irr (a : List Int) : ¬ a < a := List.lt_irrefl a
theorem lex_tr {a b c : List Int} (h : a < b) (k : b < c) : a < c := List.lt_trans h k
theorem cmp_lex : ∀ (a b : List UInt8), compareBytes a b = if (a.map fun c => (c.toNat : Int)) < (b.map fun c => (c.toNat : Int)) then -1 else if (a.map fun c => (c.toNat : Int)) = (b.map fun c => (c.toNat : Int)) then 0 else 1
  | [], [] => by simp [compareBytes]
  | [], _ :: _ => by simp [compareBytes]
  | _ :: _, [] => by simp [compareBytes]
  | x :: a, y :: b => by
    rw [compareBytes, cmp_lex a b]
    simp only [List.map_cons, List.cons_lt_cons_iff, List.cons.injEq]
    rcases Nat.lt_trichotomy x.toNat y.toNat with h | h | h
    · rw [if_pos (UInt8.lt_iff_toNat_lt.2 h), if_pos (.inl (by omega))]
    · have e : x = y := UInt8.toNat.inj h
      subst e
      rw [if_neg (UInt8.lt_irrefl x), if_neg (UInt8.lt_irrefl x)]
      simp
    · rw [if_neg (fun e => by have := UInt8.lt_iff_toNat_lt.1 e; omega), if_pos (UInt8.lt_iff_toNat_lt.2 h), if_neg (by omega), if_neg (by omega)]
theorem cmp_kb (a b : ByteArray) : compareBytes a.data.toList b.data.toList = if kb a < kb b then -1 else if kb a = kb b then 0 else 1 := cmp_lex _ _
/-- how two numbers, two places are compared -/
def cmpI (x y : Int) : Int := if x < y then -1 else if y < x then 1 else 0
def cmpM (a b : ByteArray × Int) : Int := if compareBytes a.1.data.toList b.1.data.toList ≠ 0 then compareBytes a.1.data.toList b.1.data.toList else cmpI a.2 b.2
def ltM (a b : ByteArray × Int) : Prop := kb a.1 < kb b.1 ∨ kb a.1 = kb b.1 ∧ a.2 < b.2
theorem cmpM_lt (a b : ByteArray × Int) : ltOf cmpM a b = true ↔ ltM a b := by
  show decide (cmpM a b < 0) = true ↔ _
  rw [decide_eq_true_eq]
  unfold cmpM cmpI ltM
  rw [cmp_kb]
  by_cases h : kb a.1 < kb b.1
  · simp [h]
  · by_cases h2 : kb a.1 = kb b.1
    · rw [if_neg h, if_pos h2, if_neg (by simp)]
      simp only [h2, true_and]
      by_cases h3 : a.2 < b.2
      · simp [h3, lex_irr]
      · by_cases h4 : b.2 < a.2 <;> simp [h3, h4, lex_irr]
    · simp [h, h2]
theorem cmpM_ge (a b : ByteArray × Int) : ltOf cmpM a b = false ↔ ¬ ltM a b := by
  rw [← cmpM_lt]
  simp
theorem ltM_tri (a b : ByteArray × Int) : ltM a b ∨ a = b ∨ ltM b a := by
  unfold ltM
  rcases lex_tri (kb a.1) (kb b.1) with h | h | h
  · exact .inl (.inl h)
  · rcases Int.lt_trichotomy a.2 b.2 with e | e | e
    · exact .inl (.inr ⟨h, e⟩)
    · exact .inr (.inl (Prod.ext (kb_inj h) e))
    · exact .inr (.inr (.inr ⟨h.symm, e⟩))
  · exact .inr (.inr (.inl h))
theorem ltM_irr (a : ByteArray × Int) : ¬ ltM a a := by
  rintro (h | h)
  · exact lex_irr _ h
  · omega
theorem ltM_tr {a b c : ByteArray × Int} (h : ltM a b) (k : ltM b c) : ltM a c := by
  rcases h with h | ⟨h, h2⟩ <;> rcases k with k | ⟨k, k2⟩
  · exact .inl (lex_tr h k)
  · exact .inl (by rw [← k]; exact h)
  · exact .inl (by rw [h]; exact k)
  · exact .inr ⟨h.trans k, by omega⟩
theorem swoM : SWO (ltOf cmpM) := by
  refine ⟨fun x => (cmpM_ge _ _).2 (ltM_irr x), fun x y z h k => (cmpM_lt _ _).2 (ltM_tr ((cmpM_lt _ _).1 h) ((cmpM_lt _ _).1 k)), fun x y z h k => ?_⟩
  rw [cmpM_ge] at h k ⊢
  intro e
  rcases ltM_tri x y with p | p | p
  · exact h p
  · subst p; exact k e
  · exact k (ltM_tr p e)
theorem antM (x y : ByteArray × Int) (h : ltOf cmpM x y = false) (k : ltOf cmpM y x = false) : x = y := by
  rw [cmpM_ge] at h k
  rcases ltM_tri x y with p | p | p
  · exact absurd p h
  · exact p
  · exact absurd p k
theorem mLe_eq (x y : ByteArray × Int) : (!ltOf cmpM y x) = mLe x y := by
  rw [Bool.eq_iff_iff]
  rw [Bool.not_eq_true', cmpM_ge]
  unfold mLe ltM
  simp only [Bool.or_eq_true, Bool.and_eq_true, decide_eq_true_eq]
  constructor
  · intro h
    rcases lex_tri (kb x.1) (kb y.1) with e | e | e
    · exact .inl e
    · exact .inr ⟨e, by
        apply Int.not_lt.1
        intro e2
        exact h (.inr ⟨e.symm, e2⟩)⟩
    · exact absurd (.inl e) h
  · rintro (h | ⟨h, h2⟩) (k | ⟨k, k2⟩)
    · exact lex_irr _ (lex_tr h k)
    · rw [k] at h; exact lex_irr _ h
    · rw [h] at k; exact lex_irr _ k
    · omega

/-- draws and new blocks alone -/
def Gr (w w' : World) : Prop := ∃ q os, w' = grow (w.drewN q) os
theorem Gr.refl (w : World) : Gr w w := ⟨0, #[], by rw [grow_empty]; rfl⟩
theorem Gr.drewN {w w' : World} (h : Gr w w') (n : Nat) : Gr w (w'.drewN n) := by
  obtain ⟨q, os, rfl⟩ := h
  exact ⟨q + n, os, by rw [← World.drewN_drewN]; rfl⟩
theorem Gr.drew {w w' : World} (h : Gr w w') : Gr w w'.drew := h.drewN 1
theorem Gr.alloc {w w' : World} (h : Gr w w') (o : Obj) : Gr w (w'.alloc o) := by
  obtain ⟨q, os, rfl⟩ := h
  exact ⟨q, os ++ #[o], by rw [alloc_eq_grow, grow_grow]⟩

set_option maxHeartbeats 1000000 in
set_option maxRecDepth 100000 in
theorem compareString_any (a b : ByteArray) (w : World) : Calls Tryz.prog 55 #[.string a, .string b] w fun e w' => e = .returned (.int .i64 (compareBytes a.data.toList b.data.toList)) ∧ w' = w := by
  have H1 : ∀ wX, Calls Tryz.prog 93 #[.string a, .string b] wX fun e w' => e = .returned (.int .i64 (compareBytes a.data.toList b.data.toList)) ∧ w' = wX := fun wX => by
    go_enter Tryz.func93, Tryz.ntmps93
    go_wp2
    rw [run_callFunc_extern Tryz.func121 (by kernel_rfl) (by kernel_rfl) (by kernel_rfl) (e := Extern.BytealgCompare.compare) (by kernel_rfl), Lib.run_compareString]
    simp only [Result.andThen]
    rw [Oper.upon_value]
    go_wp2
    go_ret
    exact ⟨rfl, rfl⟩
  go_enter Tryz.func55, Tryz.ntmps55
  go_wp2_with (go_at_call 93; refine (H1 _).mono ?_; rintro e w' ⟨rfl, rfl⟩)
  go_ret
  exact ⟨rfl, rfl⟩
theorem isNaN_any (x : Int) (w : World) : Calls Tryz.prog 94 #[.int .i64 x] w fun e w' => e = .returned (.bool false) ∧ w' = w := by
  go_enter Tryz.func94, Tryz.ntmps94
  go_wp2
  go_ret
  exact ⟨rfl, rfl⟩
theorem compareI_any (x y : Int) (w : World) : Calls Tryz.prog 56 #[.int .i64 x, .int .i64 y] w fun e w' => e = .returned (.int .i64 (cmpI x y)) ∧ w' = w := by
  go_enter Tryz.func56, Tryz.ntmps56
  unfold cmpI
  by_cases h : x < y
  · rw [if_pos h]
    go_wp2_with (go_at_call 94; refine (isNaN_any _ _).mono ?_; rintro e w' ⟨rfl, rfl⟩)
    go_ret
    exact ⟨rfl, rfl⟩
  · rw [if_neg h]
    by_cases h2 : y < x
    · rw [if_pos h2]
      go_wp2_with (go_at_call 94; refine (isNaN_any _ _).mono ?_; rintro e w' ⟨rfl, rfl⟩)
      go_ret
      exact ⟨rfl, rfl⟩
    · rw [if_neg h2]
      go_wp2_with (go_at_call 94; refine (isNaN_any _ _).mono ?_; rintro e w' ⟨rfl, rfl⟩)
      go_ret
      exact ⟨rfl, rfl⟩
/-- the first that is not 0 -/
theorem or_any (x y z : Int) (b : Nat) (w : World) (h0 : w.cell? ⟨b, 0, none⟩ = some (.int .i64 x)) (h1 : w.cell? ⟨b, 1, none⟩ = some (.int .i64 y)) (hz : z = if x ≠ 0 then x else y) : Calls Tryz.prog 54 #[.slice (some ⟨b, 0, none⟩) 2 2] w fun e w' => e = .returned (.int .i64 z) ∧ w' = w := by
  have HZ := As.mk hz
  clear hz
  by_cases hx : x = 0
  · have e : z = y := by rw [HZ.out, if_neg (by simp [hx])]
    subst e hx
    by_cases hy : z = 0
    · subst hy
      go_enter Tryz.func54, Tryz.ntmps54
      go_wp2
      refine wp_loop_rounds 3 ?_
      rw [rounds_succ]
      go_wp2
      rw [rounds_succ]
      go_wp2
      rw [rounds_succ]
      go_wp2
      go_ret
      exact ⟨rfl, rfl⟩
    · go_enter Tryz.func54, Tryz.ntmps54
      go_wp2
      refine wp_loop_rounds 3 ?_
      rw [rounds_succ]
      go_wp2
      rw [rounds_succ]
      go_wp2
      go_ret
      exact ⟨rfl, rfl⟩
  · have e : z = x := by rw [HZ.out, if_pos hx]
    subst e
    go_enter Tryz.func54, Tryz.ntmps54
    go_wp2
    refine wp_loop_rounds 3 ?_
    rw [rounds_succ]
    go_wp2
    go_ret
    exact ⟨rfl, rfl⟩

set_option maxHeartbeats 4000000 in
set_option maxRecDepth 100000 in
theorem less_any (a b : ByteArray × Int) (w : World) : Calls Tryz.prog 53 #[.agg #[.string a.1, .int .i64 a.2], .agg #[.string b.1, .int .i64 b.2]] w fun e w' => e = .returned (.int .i64 (cmpM a b)) ∧ Gr w w' := by
  obtain ⟨ka, xa⟩ := a
  obtain ⟨kb', xb⟩ := b
  obtain ⟨r, hr⟩ : ∃ r, cmpM (ka, xa) (kb', xb) = r := ⟨_, rfl⟩
  obtain ⟨cs, hcs⟩ : ∃ r, compareBytes ka.data.toList kb'.data.toList = r := ⟨_, rfl⟩
  obtain ⟨ci, hci⟩ : ∃ r, cmpI xa xb = r := ⟨_, rfl⟩
  have HR : As (r = if cs ≠ 0 then cs else ci) := ⟨by rw [← hr, ← hcs, ← hci]; rfl⟩
  have H1 : As (∀ wX, Calls Tryz.prog 55 #[.string ka, .string kb'] wX fun e w' => e = .returned (.int .i64 cs) ∧ w' = wX) := ⟨fun wX => by rw [← hcs]; exact compareString_any ka kb' wX⟩
  have H2 : As (∀ wX, Calls Tryz.prog 56 #[.int .i64 xa, .int .i64 xb] wX fun e w' => e = .returned (.int .i64 ci) ∧ w' = wX) := ⟨fun wX => by rw [← hci]; exact compareI_any xa xb wX⟩
  have H3 : As (∀ b wX, wX.cell? ⟨b, 0, none⟩ = some (.int .i64 cs) → wX.cell? ⟨b, 1, none⟩ = some (.int .i64 ci) → Calls Tryz.prog 54 #[.slice (some ⟨b, 0, none⟩) 2 2] wX fun e w' => e = .returned (.int .i64 r) ∧ w' = wX) := ⟨fun b wX h0 h1 => or_any cs ci r b wX h0 h1 HR.out⟩
  show Calls _ _ _ _ fun e w' => e = .returned (.int .i64 (cmpM (ka, xa) (kb', xb))) ∧ Gr w w'
  rw [hr]
  clear hr hcs hci HR
  go_enter Tryz.func53, Tryz.ntmps53
  go_upto_region 1 with fail
  obtain ⟨w1, hw1⟩ : ∃ w1, w1 = (w.alloc (.cells #[.string ka, .int .i64 xa] 73)).alloc (.cells #[.string kb', .int .i64 xb] 73) := ⟨_, rfl⟩
  have hG : Gr w w1 := by rw [hw1]; exact ((Gr.refl w).alloc _).alloc _
  have s1 : w1.heap.size = w.heap.size + 1 + 1 := by rw [hw1]; simp
  have b0 : w1.heap[w.heap.size]? = some (.cells #[.string ka, .int .i64 xa] 73) := by rw [hw1]; exact blk_alloc (heap_alloc_new w _) _
  have b1 : w1.heap[w.heap.size + 1]? = some (.cells #[.string kb', .int .i64 xb] 73) := by
    rw [hw1]
    have := heap_alloc_new (w.alloc (.cells #[.string ka, .int .i64 xa] 73)) (.cells #[.string kb', .int .i64 xb] 73)
    rwa [World.size_alloc] at this
  have c0 := blk_cell b0 0 rfl
  have c1 := blk_cell b0 1 rfl
  have d0 := blk_cell b1 0 rfl
  have d1 := blk_cell b1 1 rfl
  rw [← hw1]
  have HG := As.mk hG
  have l0 : w.heap.size < w1.heap.size := by omega
  have l1 : w.heap.size + 1 < w1.heap.size := by omega
  clear hw1 hG s1 b0 b1
  go_region_held3 (fun w' => w'.cell? ⟨w.heap.size, 0, none⟩ = some (.string ka) ∧ w'.cell? ⟨w.heap.size, 1, none⟩ = some (.int .i64 xa) ∧ w'.cell? ⟨w.heap.size + 1, 0, none⟩ = some (.string kb') ∧ w'.cell? ⟨w.heap.size + 1, 1, none⟩ = some (.int .i64 xb)) (go_keep)
    (first
      | (go_at_call 55; refine (H1.out _).mono ?_; rintro e w' ⟨rfl, rfl⟩)
      | (go_at_call 56; refine (H2.out _).mono ?_; rintro e w' ⟨rfl, rfl⟩)
      | (go_at_call 54; refine (H3.out _ _ (by simp) (by simp)).mono ?_; rintro e w' ⟨rfl, rfl⟩))
  all_goals
    go_wp2
    go_ret
    refine ⟨rfl, ?_⟩
    repeat (first | exact HG.out | refine Gr.drew ?_ | refine Gr.drewN ?_ _ | refine Gr.alloc ?_ _)
end Go.Proofs.YtdiljpdohmeceaaGreat.so

/- slices.SortStableFunc on a row of places. -/
namespace Go.Proofs.YtdiljpdohmeceaaGreat.so
open Go.RowKit Go.Sort Go.Lib H O opk frame wir co

def encM (m : ByteArray × Int) : List Value := [.string m.1, .int .i64 m.2]
theorem mv_flat (l : List (ByteArray × Int)) (t : Nat) (ht : t < l.length * 2) : (mv l)[t]? = some ((flatK encM 2 l.toArray)[t]!) := by
  have h2 : t / 2 < l.length := by omega
  rw [get_flatK encM 2 l.toArray t (by simpa using ht)]
  have hg := mv_get l (t / 2) h2
  have he : l.toArray[t / 2]! = l[t / 2] := by rw [getElem!_pos _ _ (by simpa using h2)]; simp
  rw [he]
  rcases (by omega : t % 2 = 0 ∨ t % 2 = 1) with e | e
  · rw [e]
    have : t = t / 2 * 2 := by omega
    rw [← this] at hg
    rw [hg.1]
    rfl
  · rw [e]
    have : t = t / 2 * 2 + 1 := by omega
    rw [← this] at hg
    rw [hg.2]
    rfl
theorem holds_of {w : World} {T : TypeId} {g cap n : Nat} {l : List (ByteArray × Int)} (h : w.ownsRow 0 T 2 (.slice (some ⟨g, 0, none⟩) n cap) n (mv l)) (hn : l.length = n) : HoldsK encM 2 w g 0 l.toArray := by
  intro j hj
  rw [size_flatK] at hj
  have hj2 : j < l.length * 2 := by simpa using hj
  refine ⟨?_, ?_⟩
  · rw [Nat.zero_add]
    show _ = some (flatK encM 2 l.toArray)[j]!
    rw [h.cellAt j (by omega)]
    exact mv_flat l j hj2
  · rw [Nat.zero_add]
    exact h.frozenAt j
/-- the row behind the sort -/
theorem own_sorted {w w' : World} {T : TypeId} {g cap n : Nat} {l : List (ByteArray × Int)} {f : Array (ByteArray × Int)} (h : w.ownsRow 0 T 2 (.slice (some ⟨g, 0, none⟩) n cap) n (mv l)) (hn : l.length = n) (hf : f.size = n) (S : SWK encM 2 w g 0 f w') :
    w'.ownsRow 0 T 2 (.slice (some ⟨g, 0, none⟩) n cap) n (mv f.toList) ∧ Kp [g] w w' := by
  rcases h.2 with ⟨h1, _⟩ | ⟨g', cap', cur, h0, hb, hh, h1, h2, h3, h4⟩
  · cases h1
  cases h0
  have hlt : g < w.heap.size := lt_of_block hh
  have hH := S.holds hlt (holds_of h hn) (by rw [hf, ← hn]; simp)
  obtain ⟨m, os, rfl⟩ := S
  have hsz : (putRowK encM 2 (Sort.ahead w m) g 0 f).heap.size = w.heap.size := size_putRowK encM 2 _ g 0 f
  have hg : (sortWorldK encM 2 w g 0 m f os).heap[g]? = some (.cells (putCells id 0 (flatK encM 2 f) cur) T (0, 0)) := by
    unfold sortWorldK
    rw [heap_grow_old _ _ (by rw [hsz]; exact hlt)]
    unfold putRowK putRow mapBlock
    simp only [Array.getElem?_modify, if_true]
    show Option.map _ w.heap[g]? = _
    rw [hh]
    rfl
  refine ⟨⟨by rw [mv_len]; simp [hf], .inr ⟨g, cap, _, rfl, Nat.zero_le _, hg, h1, h2, by unfold putCells; rw [Array.size_mapIdx]; exact h3, ?_⟩⟩, ⟨rfl, rfl, rfl, ?_, ?_⟩⟩
  · apply List.ext_getElem?
    intro t
    rw [List.getElem?_take]
    by_cases ht : t < n * 2
    · rw [if_pos ht]
      have hc := (hH t (by rw [size_flatK, hf]; exact ht)).1
      have ht2 : t < f.toList.length * 2 := by simp [hf]; exact ht
      have hmv := mv_flat f.toList t ht2
      rw [show f.toList.toArray = f from rfl] at hmv
      rw [hmv]
      have hc2 := cell_of_row (sortWorldK encM 2 w g 0 m f os) g t _ T (0, 0) hg
      rw [Nat.zero_add] at hc
      rw [hc] at hc2
      simpa using hc2.symm
    · rw [if_neg ht]
      rw [List.getElem?_eq_none (by rw [mv_len]; simp [hf]; omega)]
  · unfold sortWorldK
    rw [size_grow, hsz]
    omega
  · intro k hk hne
    unfold sortWorldK
    rw [heap_grow_old _ _ (by rw [hsz]; exact hk)]
    unfold putRowK putRow mapBlock
    simp only [Array.getElem?_modify]
    rw [if_neg (by simpa using fun e => hne (by simp [e]))]
    rfl

theorem info_match : (Tryz.prog.info? 73).map (fun i => (i.zero, i.size, i.bytes)) = some (some (.agg #[.string ⟨#[]⟩, .int .i64 0]), 2, 24) := by kernel_rfl
theorem isAgg_match (w : World) : (isAgg 73).run Tryz.prog w = .ok true w := by kernel_rfl
theorem sizeOf_match (w : World) : (Go.sizeOf 73).run Tryz.prog w = .ok 2 w := by kernel_rfl
theorem cmpLays (blk size : Nat) (w : World) : CmpLays Tryz.prog 53 #[] encM 2 cmpM blk 0 size w := by
  intro m os dk _ x y
  exact less_any x y _

/-- what is in order is what sortM makes -/
theorem sorted_is {l : List (ByteArray × Int)} {f : Array (ByteArray × Int)} (p : PermIn 0 l.toArray.size l.toArray f) (s : SortedIn (ltOf cmpM) 0 l.toArray.size f) : f.toList = sortM l := by
  have h := sorted_unique_holds swoM antM l.toArray f p s
  rw [h]
  show l.mergeSort _ = l.mergeSort mLe
  congr 1
  funext x y
  exact mLe_eq x y

set_option maxHeartbeats 4000000 in
set_option maxRecDepth 100000 in
theorem sort_nil (w : World) : Calls Tryz.prog 52 #[.slice none 0 0, .func (.func 53) #[] #[]] w fun e w' => e = .returned (.tuple #[]) ∧ w' = w := by
  have H1 : ∀ wX, Calls Tryz.prog 119 #[.slice none 0 0, .int .i64 0, .int .i64 0, .func (.func 53) #[] #[]] wX fun e w' => e = .returned (.tuple #[]) ∧ w' = wX := fun wX => by
    go_enter Tryz.func119, Tryz.ntmps119
    go_wp2
    refine wp_loop_rounds 1 ?_
    rw [rounds_succ]
    go_wp2
    go_end0
    exact ⟨rfl, rfl⟩
  have H2 : ∀ wX, Calls Tryz.prog 92 #[.slice none 0 0, .int .i64 0, .func (.func 53) #[] #[]] wX fun e w' => e = .returned (.tuple #[]) ∧ w' = wX := fun wX => by
    go_enter Tryz.func92, Tryz.ntmps92
    go_wp2
    refine wp_loop_rounds 1 ?_
    rw [rounds_succ]
    go_wp2_with (go_at_call 119; refine (H1 _).mono ?_; rintro e w' ⟨rfl, rfl⟩)
    refine wp_loop_rounds 1 ?_
    rw [rounds_succ]
    go_wp2
    go_end0
    exact ⟨rfl, rfl⟩
  go_enter Tryz.func52, Tryz.ntmps52
  go_wp2_with (go_at_call 92; refine (H2 _).mono ?_; rintro e w' ⟨rfl, rfl⟩)
  go_end0
  exact ⟨rfl, rfl⟩

set_option maxHeartbeats 4000000 in
set_option maxRecDepth 100000 in
theorem sort_any (v : Value) (l : List (ByteArray × Int)) (w : World) (h : w.ownsRow 0 73 2 v l.length (mv l)) (hl : l.length ≤ 1000000000000) :
    Calls Tryz.prog 52 #[v, .func (.func 53) #[] #[]] w fun e w' => e = .returned (.tuple #[]) ∧ w'.ownsRow 0 73 2 v l.length (mv (sortM l)) ∧ Kp v.ownBlock.toList w w' := by
  rcases h.2 with ⟨rfl, h0⟩ | ⟨g, cap, cur, rfl, hb, hh, h1, h2, h3, h4⟩
  · have e : l = [] := List.eq_nil_of_length_eq_zero h0
    subst e
    refine (sort_nil w).mono ?_
    rintro e w' ⟨rfl, rfl⟩
    exact ⟨rfl, by rw [show sortM [] = [] by simp [sortM]]; exact World.ownsRow_nil _ 0 _ 2, Kp.refl _ _⟩
  · obtain ⟨n, hn⟩ : ∃ n, l.length = n := ⟨_, rfl⟩
    have hH := holds_of h rfl
    have hlt : g < w.heap.size := lt_of_block hh
    have X : Srt encM 2 cmpM 53 #[] g 0 l.toArray w := ⟨isAgg_match, sizeOf_match, enters_of Tryz.func53 (by kernel_rfl) rfl, cmpLays g _ w, ⟨fun _ => rfl, fun x v hv => by
      simp only [encM, List.mem_cons, List.not_mem_nil, or_false] at hv
      rcases hv with rfl | rfl <;> rfl, hH, hlt⟩, swoM, by simp; omega⟩
    have HS : As (Calls Tryz.prog 92 #[.slice (some ⟨g, 0, none⟩) n cap, .int .i64 n, .func (.func 53) #[] #[]] w fun e w' => e = .returned (.tuple #[]) ∧ As (w'.ownsRow 0 73 2 (.slice (some ⟨g, 0, none⟩) n cap) n (mv (sortM l)) ∧ Kp [g] w w')) := ⟨by
      refine (stable_any X cap n l.toArray w rfl (by simp [hn]) (by omega) (SWK.start hH)).mono ?_
      rintro e w' ⟨rfl, f, p, s, S⟩
      refine ⟨rfl, ⟨?_⟩⟩
      have es : n = l.toArray.size := by simp [hn]
      rw [es] at p s
      have hfs : f.size = n := by rw [p.1, es]
      have := own_sorted (by rw [← hn]; exact h) hn hfs S
      rwa [sorted_is p s] at this⟩
    rw [hn]
    have hn9 : n ≤ 1000000000000 := by omega
    clear h hH X h4 h3 hh hn hl
    go_enter Tryz.func52, Tryz.ntmps52
    go_wp2_with (go_at_call 92; refine HS.out.mono ?_; rintro e w1 ⟨rfl, HF⟩; clear HS)
    go_end0
    exact ⟨rfl, HF.out.1, HF.out.2⟩
end Go.Proofs.YtdiljpdohmeceaaGreat.so
