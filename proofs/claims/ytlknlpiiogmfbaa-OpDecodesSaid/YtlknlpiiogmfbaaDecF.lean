/- haystackref13.Decode. -/
import Derived.Test.YtlknlpiiogmfbaaMatM1
import Derived.Test.YtlknlpiiogmfbaaEmpty
import Derived.Test.YtlknlpiiogmfbaaOpE
import Derived.Test.YtlknlpiiogmfbaaOpF
import Derived.Test.YtlknlpiiogmfbaaCanon
import Derived.Deep.RegionLaw
import Derived.Deep.CutRange
import Derived.Deep.CutBlock
namespace Go.Proofs.Ytlknlpiiogmfbaa.ref13
open Go.RowKit H O opk haystacklaw13 refr

/-- How Decode stands: the result's block, the Reader. -/
structure FR (w wr : World) (s : Option (List Int)) : Prop where
  kp : Kp [] w wr
  res : OpAt wr w.heap.size 0 0 0 ⟨#[]⟩ none 0 0
  rdr : ∃ g, Rdr wr (w.heap.size + 1) g s ∧ ∀ y, g = some y → y < w.heap.size
theorem FR.lt {w wr : World} {s : Option (List Int)} (h : FR w wr s) : w.heap.size + 1 < wr.heap.size := by
  obtain ⟨g, hr, _⟩ := h.rdr
  exact hr.lt
theorem FR.skip {w wr w1 : World} {s : Option (List Int)} (h : FR w wr s) (kk : Kp [] wr w1) : FR w w1 s := by
  obtain ⟨g, hr, hg⟩ := h.rdr
  exact ⟨h.kp.trans kk (by simp), h.res.kp kk (by simp), ⟨g, hr.kp kk (by simp) (by simp), hg⟩⟩
theorem FR.far {w wr w1 : World} {s : Option (List Int)} {X : Nat} (h : FR w wr s) (hX : w.heap.size + 2 ≤ X) (kk : Kp [X] wr w1) : FR w w1 s := by
  obtain ⟨g, hr, hg⟩ := h.rdr
  exact ⟨h.kp.trans kk (by intro x hx; simp at hx; omega), h.res.kp kk (by simp; omega), ⟨g, hr.kp kk (by simp; omega) (fun y hy => by have := hg y hy; simp; omega), hg⟩⟩
theorem FR.took {w wr w1 : World} {s s' : Option (List Int)} {g g' : Option Nat} (h : FR w wr s) (hg : ∀ y, g = some y → y < w.heap.size) (R : Rdr w1 (w.heap.size + 1) g' s') (G : g' = g ∨ g' = none) (kk : Kp [w.heap.size + 1] wr w1) : FR w w1 s' :=
  ⟨h.kp.trans kk (by intro x hx; simp at hx; omega), h.res.kp kk (by simp), ⟨g', R, fun y hy => by rcases G with e | e; exact hg y (by rw [← e]; exact hy); rw [e] at hy; cases hy⟩⟩
theorem FR.num {w wr : World} {s s4 : Option (List Int)} {y : Nat} (h : FR w wr s) (hl : (left s).length ≤ 70368744177664) (hs : stNum s = (y, s4)) :
    Calls Try.prog 71 #[.pointer (some ⟨w.heap.size + 1, 0, none⟩)] wr fun e w5 => e = .returned (.int .i64 (y : Int)) ∧ FR w w5 s4 ∧ Kp [w.heap.size + 1] wr w5 := by
  obtain ⟨g, R, hg⟩ := h.rdr
  refine (num_any _ g s wr R hl).mono ?_
  rw [hs]
  rintro e w5 ⟨rfl, g5, R5, G5, K5⟩
  exact ⟨rfl, h.took hg R5 G5 K5, K5⟩
theorem FR.bytes {w wr : World} {s s4 : Option (List Int)} {p : List Int} {n : Nat} (h : FR w wr s) (hl : (left s).length ≤ 70368744177664) (hs : stBytes s = (p, s4)) (hn : p.length = n) :
    Calls Try.prog 72 #[.pointer (some ⟨w.heap.size + 1, 0, none⟩)] wr fun e w5 => ∃ A5 c5, e = .returned (.slice A5 n c5) ∧ FR w w5 s4 ∧ (∀ w6, Kp [w.heap.size + 1] w5 w6 → Rd w6 A5 (iv .u8 p)) ∧ n ≤ c5 ∧ (A5 = none → c5 = 0) ∧ (∀ a, A5 = some a → wr.heap.size ≤ a.block ∧ a.block < w5.heap.size) ∧ Kp [w.heap.size + 1] wr w5 := by
  obtain ⟨g, R, hg⟩ := h.rdr
  have hlt := h.lt
  refine (bytes_any _ g s wr R hl).mono ?_
  rw [hs]
  rintro e w5 ⟨v5, rfl, O, g5, R5, G5, K5⟩
  have O' := O
  obtain ⟨A5, c5, rfl, h1, _, r5, n5⟩ := own_rd O.1
  have hb : ∀ a, A5 = some a → wr.heap.size ≤ a.block ∧ a.block < w5.heap.size := fun a ha => ⟨O'.2 a.block (by rw [ha]; rfl), own_lt O'.1 a.block (by rw [ha]; rfl)⟩
  rw [hn] at h1 ⊢
  refine ⟨A5, c5, rfl, h.took hg R5 G5 K5, fun w6 k6 => k6.rd r5 ?_, h1, n5, hb, K5⟩
  intro a ha hm
  have h1 := hb a ha
  simp at hm
  omega
theorem FR.whole {w wr : World} {s : Option (List Int)} (h : FR w wr s) :
    Calls Try.prog 75 #[.pointer (some ⟨w.heap.size + 1, 0, none⟩)] wr fun e w5 => e = .returned (.bool (refr.whole s)) ∧ w5 = wr := by
  obtain ⟨g, R, hg⟩ := h.rdr
  exact whole_any _ g s wr R
theorem FR.box {w : World} {A : Option Addr} {n c : Nat} {xs : List Int} (hn : xs.length = n) (hr : Rd w A (iv .u8 xs)) (hc : n ≤ c) (hc9 : c ≤ 9223372036854775807) (hnil : A = none → c = 0) (hA : ∀ a, A = some a → a.block < w.heap.size) (hw : Wf xs) :
    FR w ((w.alloc (.cells #[.int .i64 0, .int .i64 0, .int .i64 0, .string ⟨#[]⟩, .slice none 0 0] 47)).alloc (.cells #[.slice A n c, .bool false] 98)) (some xs) := by
  subst hn
  have k1 := (Kp.refl [] w).alloc (.cells #[.int .i64 0, .int .i64 0, .int .i64 0, .string ⟨#[]⟩, .slice none 0 0] 47)
  have hg : ∀ y, A.map Addr.block = some y → y < w.heap.size := by
    intro y hy
    cases A with
    | none => simp at hy
    | some a => simp at hy; rw [← hy]; exact hA a rfl
  have hb := heap_alloc_new (w.alloc (.cells #[.int .i64 0, .int .i64 0, .int .i64 0, .string ⟨#[]⟩, .slice none 0 0] 47)) (.cells #[.slice A xs.length c, .bool false] 98)
  rw [World.size_alloc] at hb
  refine ⟨k1.alloc _, blk_alloc (heap_alloc_new w _) _, A.map Addr.block, ⟨A, c, hb, rfl, (k1.alloc _).rd_new hr (by simp), hc, hc9, hnil, ?_, hw⟩, hg⟩
  intro e
  have := hg _ e
  omega
/-- the first number -/
theorem FR.first {w wX : World} {A : Option Addr} {n c N : Nat} {xs : List Int} {s1 : Option (List Int)} (hn : xs.length = n) (hr : Rd w A (iv .u8 xs)) (hc : n ≤ c) (hc9 : c ≤ 9223372036854775807) (hnil : A = none → c = 0) (hA : (∀ a, A = some a → a.block < w.heap.size) ∨ n = 0) (hw : Wf xs) (hl : (left (some xs)).length ≤ 70368744177664) (h0 : stNum (some xs) = (N, s1))
    (hX : Kp [] ((w.alloc (.cells #[.int .i64 0, .int .i64 0, .int .i64 0, .string ⟨#[]⟩, .slice none 0 0] 47)).alloc (.cells #[.slice A n c, .bool false] 98)) wX) :
    Calls Try.prog 71 #[.pointer (some ⟨w.heap.size + 1, 0, none⟩)] wX fun e w5 => e = .returned (.int .i64 (N : Int)) ∧ FR w w5 s1 ∧ Kp [w.heap.size + 1] wX w5 := by
  rcases hA with hA | rfl
  · exact ((FR.box hn hr hc hc9 hnil hA hw).skip hX).num hl h0
  · obtain rfl : xs = [] := List.eq_nil_of_length_eq_zero hn
    have e0 : stNum (some []) = (0, none) := rfl
    rw [e0] at h0
    cases h0
    have k1 := (Kp.refl [] w).alloc (.cells #[.int .i64 0, .int .i64 0, .int .i64 0, .string ⟨#[]⟩, .slice none 0 0] 47)
    have hb := heap_alloc_new (w.alloc (.cells #[.int .i64 0, .int .i64 0, .int .i64 0, .string ⟨#[]⟩, .slice none 0 0] 47)) (.cells #[.slice A 0 c, .bool false] 98)
    rw [World.size_alloc] at hb
    have hres : OpAt ((w.alloc (.cells #[.int .i64 0, .int .i64 0, .int .i64 0, .string ⟨#[]⟩, .slice none 0 0] 47)).alloc (.cells #[.slice A 0 c, .bool false] 98)) w.heap.size 0 0 0 ⟨#[]⟩ none 0 0 := blk_alloc (heap_alloc_new w _) _
    refine (num_empty (A := A) (c := c) (b := w.heap.size + 1) (hX.blk hb (by simp))).mono ?_
    rintro e w5 ⟨rfl, R5, K5⟩
    exact ⟨rfl, ⟨((k1.alloc _).trans hX (by simp)).trans K5 (by intro x hx; simp at hx; omega), (hres.kp hX (by simp)).kp K5 (by simp), ⟨none, R5, by simp⟩⟩, K5⟩
/-- An op's block, new, empty. -/
structure OpZ (w wr : World) (X : Nat) : Prop where
  op : OpAt wr X 0 0 0 ⟨#[]⟩ none 0 0
  lo : w.heap.size + 2 ≤ X
theorem OpZ.new {w wr : World} {s : Option (List Int)} (h : FR w wr s) : OpZ w (wr.alloc (.cells #[.int .i64 0, .int .i64 0, .int .i64 0, .string ⟨#[]⟩, .slice none 0 0] 47)) wr.heap.size := ⟨OpAt.new _ _ _ _ _ _ _ _, h.lt⟩
theorem OpZ.first {w w0 : World} (h : w0.heap.size = w.heap.size + 2) : OpZ w (w0.drew.alloc (.cells #[.int .i64 0, .int .i64 0, .int .i64 0, .string ⟨#[]⟩, .slice none 0 0] 47)) w0.heap.size := ⟨OpAt.new w0.drew _ _ _ _ _ _ _, by omega⟩
theorem OpZ.kp {w wr w1 : World} {X : Nat} (h : OpZ w wr X) (kk : Kp [w.heap.size + 1] wr w1) : OpZ w w1 X := ⟨h.op.kp kk (by have := h.lo; simp; omega), h.lo⟩
theorem OpZ.before {w wr : World} {X m : Nat} {A : Option Addr} (h : OpZ w wr X) (ht : ∀ a, A = some a → wr.heap.size ≤ a.block ∧ a.block < m) : ∀ a, A = some a → X < a.block := fun a ha => by
  have h1 := lt_of_block h.op
  have h2 := ht a ha
  omega
/-- Behind the fields. -/
structure FQ (w wx : World) (X : Nat) (n0 n1 n2 : Int) (key : ByteArray) (A : Option Addr) (n c : Nat) (t : List Int) (s : Option (List Int)) : Prop where
  fr : FR w wx s
  op : OpAt wx X n0 n1 n2 key A n c
  rd : Rd wx A (iv .u8 t)
  le : n ≤ c
  nil : A = none → c = 0
  off : ∀ a, A = some a → w.heap.size < a.block
theorem FR.made {w w5 : World} {s : Option (List Int)} {X n c : Nat} {A : Option Addr} {t : List Int} (h : FR w w5 s) (hz : OpZ w w5 X) (ht : ∀ w6, Kp [w.heap.size + 1] w5 w6 → Rd w6 A (iv .u8 t)) (hc : n ≤ c) (hnil : A = none → c = 0) (hX : ∀ a, A = some a → X < a.block) (n0 n1 n2 : Int) (key : ByteArray) :
    FQ w (((((w5.setCell ⟨X, 0, none⟩ (.int .i64 n0)).setCell ⟨X, 1, none⟩ (.int .i64 n1)).setCell ⟨X, 2, none⟩ (.int .i64 n2)).setCell ⟨X, 3, none⟩ (.string key)).setCell ⟨X, 4, none⟩ (.slice A n c)) X n0 n1 n2 key A n c t s := by
  have e := ((((hz.op.set.1 n0).set.2.1 n1).set.2.2.1 n2).set.2.2.2.1 key).set.2.2.2.2 A n c
  have kk : Kp [X] w5 (((((w5.setCell ⟨X, 0, none⟩ (.int .i64 n0)).setCell ⟨X, 1, none⟩ (.int .i64 n1)).setCell ⟨X, 2, none⟩ (.int .i64 n2)).setCell ⟨X, 3, none⟩ (.string key)).setCell ⟨X, 4, none⟩ (.slice A n c)) :=
    (((((Kp.refl _ w5).setCell (.inl (by simp)) _).setCell (.inl (by simp)) _).setCell (.inl (by simp)) _).setCell (.inl (by simp)) _).setCell (.inl (by simp)) _
  have hlo := hz.lo
  exact ⟨h.far hlo kk, e, kk.rd (ht w5 (Kp.refl _ _)) (fun a ha hm => by have := hX a ha; simp at hm; omega), hc, hnil, fun a ha => by have := hX a ha; omega⟩
theorem FR.laid {w w5 wX : World} {s s9 : Option (List Int)} {n c m : Nat} {A : Option Addr} {t : List Int} (h : FR w w5 s) (h9 : FR w wX s9) (ht : ∀ w6, Kp [w.heap.size + 1] w5 w6 → Rd w6 A (iv .u8 t)) (hc : n ≤ c) (hnil : A = none → c = 0) (hX : ∀ a, A = some a → wX.heap.size ≤ a.block ∧ a.block < m) (n0 n1 n2 : Int) (key : ByteArray) :
    FQ w (w5.alloc (.cells #[.int .i64 n0, .int .i64 n1, .int .i64 n2, .string key, .slice A n c] 47)) w5.heap.size n0 n1 n2 key A n c t s :=
  ⟨h.skip ((Kp.refl [] _).alloc _), OpAt.new _ _ _ _ _ _ _ _, ((Kp.refl [] _).alloc _).rd_new (ht w5 (Kp.refl _ _)) (by simp), hc, hnil, fun a ha => by have h1 := hX a ha; have h2 := h9.lt; omega⟩

set_option maxHeartbeats 16000000 in
set_option maxRecDepth 100000 in
theorem decode_any (A : Option Addr) (n c : Nat) (xs : List Int) (w : World) (hn : xs.length = n) (hr : Rd w A (iv .u8 xs)) (hc : n ≤ c) (hc9 : c ≤ 9223372036854775807) (hnil : A = none → c = 0) (hA : (∀ a, A = some a → a.block < w.heap.size) ∨ n = 0) (hw : Wf xs) (hm : n ≤ 1000000) :
    Calls Try.prog 44 #[.slice A n c] w (ODec xs w) := by
  obtain ⟨n0, s1, h0⟩ : ∃ a b, stNum (some xs) = (a, b) := ⟨_, _, rfl⟩
  obtain ⟨n1, s2, h1⟩ : ∃ a b, stNum s1 = (a, b) := ⟨_, _, rfl⟩
  obtain ⟨n2, s3, h2⟩ : ∃ a b, stNum s2 = (a, b) := ⟨_, _, rfl⟩
  obtain ⟨p, s4, h3⟩ : ∃ a b, stBytes s3 = (a, b) := ⟨_, _, rfl⟩
  obtain ⟨t, s5, h4⟩ : ∃ a b, stBytes s4 = (a, b) := ⟨_, _, rfl⟩
  obtain ⟨np, hnp⟩ : ∃ k, p.length = k := ⟨_, rfl⟩
  obtain ⟨nt, hnt⟩ : ∃ k, t.length = k := ⟨_, rfl⟩
  have hl0 : (left (some xs)).length ≤ 1000000 := by simp [left]; omega
  have hl1 : (left s1).length ≤ 1000000 := by have q := refr.left_le hl0; rwa [h0] at q
  have hl2 : (left s2).length ≤ 1000000 := by have q := refr.left_le hl1; rwa [h1] at q
  have hl3 : (left s3).length ≤ 1000000 := by have q := refr.left_le hl2; rwa [h2] at q
  have hl4 : (left s4).length ≤ 1000000 := by have q := stBytes_left (s := s3) hl3; rwa [h3] at q
  have hnt9 : nt ≤ 1000000 := by have q := stBytes_len (s := s4) hl4; rw [h4] at q; simp only at q; omega
  have HE : As (dOpR xs = if s5 = some [] ∧ opErr n0 n1 n2 np nt = 0 then ((n0 : Int), (n1 : Int), (n2 : Int), strOfNums p, t, 0) else (0, 0, 0, ⟨#[]⟩, [], 3)) := ⟨by
    rw [dOpR_eq h0 h1 h2 h3 h4, hnp, hnt]
    by_cases hs : s5 = some []
    · subst hs
      have hcan := op_canon hw h0 h1 h2 h3 h4
      by_cases he : opErr n0 n1 n2 np nt = 0
      · rw [if_pos ⟨rfl, he, hcan⟩, if_pos ⟨rfl, he⟩]
      · rw [if_neg (fun h => he h.2.1), if_neg (fun h => he h.2)]
    · rw [if_neg (fun h => hs h.1), if_neg (fun h => hs h.1)]⟩
  have HN1 := As.mk (fun wX => FR.first (wX := wX) hn hr hc hc9 hnil hA hw (by omega) h0)
  have HN2 : As (∀ wX, FR w wX s1 → Calls Try.prog 71 #[.pointer (some ⟨w.heap.size + 1, 0, none⟩)] wX fun e w5 => e = .returned (.int .i64 (n1 : Int)) ∧ FR w w5 s2 ∧ Kp [w.heap.size + 1] wX w5) := ⟨fun wX h => h.num (by omega) h1⟩
  have HN3 : As (∀ wX, FR w wX s2 → Calls Try.prog 71 #[.pointer (some ⟨w.heap.size + 1, 0, none⟩)] wX fun e w5 => e = .returned (.int .i64 (n2 : Int)) ∧ FR w w5 s3 ∧ Kp [w.heap.size + 1] wX w5) := ⟨fun wX h => h.num (by omega) h2⟩
  have HB1 : As (∀ wX, FR w wX s3 → Calls Try.prog 72 #[.pointer (some ⟨w.heap.size + 1, 0, none⟩)] wX fun e w5 => ∃ A5 c5, e = .returned (.slice A5 np c5) ∧ FR w w5 s4 ∧ (∀ w6, Kp [w.heap.size + 1] w5 w6 → Rd w6 A5 (iv .u8 p)) ∧ np ≤ c5 ∧ (A5 = none → c5 = 0) ∧ (∀ a, A5 = some a → wX.heap.size ≤ a.block ∧ a.block < w5.heap.size) ∧ Kp [w.heap.size + 1] wX w5) := ⟨fun wX h => h.bytes (by omega) h3 hnp⟩
  have HB2 : As (∀ wX, FR w wX s4 → Calls Try.prog 72 #[.pointer (some ⟨w.heap.size + 1, 0, none⟩)] wX fun e w5 => ∃ A5 c5, e = .returned (.slice A5 nt c5) ∧ FR w w5 s5 ∧ (∀ w6, Kp [w.heap.size + 1] w5 w6 → Rd w6 A5 (iv .u8 t)) ∧ nt ≤ c5 ∧ (A5 = none → c5 = 0) ∧ (∀ a, A5 = some a → wX.heap.size ≤ a.block ∧ a.block < w5.heap.size) ∧ Kp [w.heap.size + 1] wX w5) := ⟨fun wX h => h.bytes (by omega) h4 hnt⟩
  have HNP := As.mk hnp
  have HNT := As.mk hnt
  clear h0 h1 h2 h3 h4 hl0 hl1 hl2 hl3 hl4 hn hr hc hc9 hnil hA hw hnp hnt
  go_enter Try.func44, Try.ntmps44
  go_upto_region 2 with fail
  have HSZ : As (((w.alloc (.cells #[.int .i64 0, .int .i64 0, .int .i64 0, .string ⟨#[]⟩, .slice none 0 0] 47)).alloc (.cells #[.slice A n c, .bool false] 98)).heap.size = w.heap.size + 2) := ⟨by simp⟩
  obtain ⟨w0, hw0⟩ : ∃ w0, w0 = (w.alloc (.cells #[.int .i64 0, .int .i64 0, .int .i64 0, .string ⟨#[]⟩, .slice none 0 0] 47)).alloc (.cells #[.slice A n c, .bool false] 98) := ⟨_, rfl⟩
  rw [← hw0] at HN1 HSZ ⊢
  clear hw0
  go_cut [5] from 11 to 35 (fun v wx => ∃ (X ct : Nat) (At : Option Addr), v = .pointer (some ⟨X, 0, none⟩) ∧ As (FQ w wx X n0 n1 n2 (strOfNums p) At nt ct t s5))
  case first =>
    go_region_law (first
      | (go_simp; go_at_call 71; (first | (refine (HN1.out _ (Kp.refl [] _).drew).mono ?_; rintro e w1 HP; obtain ⟨rfl, h1, k1⟩ := HP) | (refine (HN1.out _ ((Kp.refl [] _).drew.alloc _)).mono ?_; rintro e w1 HP; obtain ⟨rfl, h1, k1⟩ := HP; have HZ1 : As (OpZ w w1 w0.heap.size) := ⟨(OpZ.first HSZ.out).kp k1⟩)); have HF1 := As.mk h1; clear h1 k1 HN1)
      | (go_simp; go_at_call 71; (first | (refine (HN2.out _ HF1.out).mono ?_; rintro e w2 HP; obtain ⟨rfl, h2, k2⟩ := HP; (first | (have HZ2 := As.mk (HZ1.out.kp k2); clear HZ1) | skip)) | (refine (HN2.out _ (HF1.out.skip ((Kp.refl [] _).alloc _))).mono ?_; rintro e w2 HP; obtain ⟨rfl, h2, k2⟩ := HP; have HZ2 := As.mk ((OpZ.new HF1.out).kp k2))); have HF2 := As.mk h2; clear h2 k2 HN2)
      | (go_simp; go_at_call 71; (first | (refine (HN3.out _ HF2.out).mono ?_; rintro e w3 HP; obtain ⟨rfl, h3, k3⟩ := HP; (first | (have HZ3 := As.mk (HZ2.out.kp k3); clear HZ2) | skip)) | (refine (HN3.out _ (HF2.out.skip ((Kp.refl [] _).alloc _))).mono ?_; rintro e w3 HP; obtain ⟨rfl, h3, k3⟩ := HP; have HZ3 := As.mk ((OpZ.new HF2.out).kp k3))); have HF3 := As.mk h3; clear h3 k3 HN3)
      | (go_simp; go_at_call 72; (first | (refine (HB1.out _ HF3.out).mono ?_; rintro e w4 HP; obtain ⟨A4, c4, rfl, h4, r4, _, _, _, k4⟩ := HP; (first | (have HZ4 := As.mk (HZ3.out.kp k4); clear HZ3) | skip)) | (refine (HB1.out _ (HF3.out.skip ((Kp.refl [] _).alloc _))).mono ?_; rintro e w4 HP; obtain ⟨A4, c4, rfl, h4, r4, _, _, _, k4⟩ := HP; have HZ4 := As.mk ((OpZ.new HF3.out).kp k4))); have HF4 := As.mk h4; have HR4 := As.mk r4; have hcv4 := conv_str (c := c4) HNP.out (r4 w4 (Kp.refl _ _)); have hcva4 := fun o => conv_str (c := c4) HNP.out (r4 (w4.alloc o) ((Kp.refl _ _).alloc _)); clear h4 k4 r4 HB1)
      | (go_simp; go_at_call 72; (first | (refine (HB2.out _ HF4.out).mono ?_; rintro e w5 HP; obtain ⟨A5, c5, rfl, h5, r5, g5, m5, b5, k5⟩ := HP; (first | (have HX5 := As.mk (HZ4.out.before b5); have HZ5 := As.mk (HZ4.out.kp k5); clear HZ4) | skip)) | (refine (HB2.out _ (HF4.out.skip ((Kp.refl [] _).alloc _))).mono ?_; rintro e w5 HP; obtain ⟨A5, c5, rfl, h5, r5, g5, m5, b5, k5⟩ := HP; have HX5 := As.mk ((OpZ.new HF4.out).before b5); have HZ5 := As.mk ((OpZ.new HF4.out).kp k5))); have k45 : Kp [w.heap.size + 1] w4 w5 := (by first | exact k5 | exact ((Kp.refl [w.heap.size + 1] _).alloc _).trans k5 (fun x hx => .inl hx)); have hcv5 := conv_str (c := c4) HNP.out (HR4.out w5 k45); have hcva5 := fun o => conv_str (c := c4) HNP.out (HR4.out (w5.alloc o) (k45.alloc o)); have HF5 := As.mk h5; have HR5 := As.mk r5; have HG5 := As.mk g5; have HM5 := As.mk m5; have HB5 := As.mk b5; (first | (obtain ⟨z0, z1, z2, z3, z4⟩ := HZ5.out.op.cells; have f0 := HZ5.out.op.free 0; have f1 := HZ5.out.op.free 1; have f2 := HZ5.out.op.free 2; have f3 := HZ5.out.op.free 3; have f4 := HZ5.out.op.free 4) | skip); clear h5 k5 k45 r5 g5 m5 b5 HB2))
    all_goals go_wp2_with fail
    all_goals go_meet
    all_goals first
      | exact ⟨_, _, _, rfl, ⟨HF5.out.made HZ5.out HR5.out HG5.out HM5.out HX5.out _ _ _ _⟩⟩
      | exact ⟨_, _, _, rfl, ⟨HF5.out.laid HF4.out HR5.out HG5.out HM5.out HB5.out _ _ _ _⟩⟩
  case rest =>
    obtain ⟨X, ct, At, rfl, HQ⟩ := hcut
    obtain ⟨d0, d1, d2, d3, d4⟩ := HQ.out.op.cells
    obtain ⟨e0, e1, e2, e3, e4⟩ := HQ.out.fr.res.cells
    have f0 := HQ.out.fr.res.free 0
    have f1 := HQ.out.fr.res.free 1
    have f2 := HQ.out.fr.res.free 2
    have f3 := HQ.out.fr.res.free 3
    have f4 := HQ.out.fr.res.free 4
    have HWH := As.mk HQ.out.fr.whole
    by_cases hs5 : s5 = some []
    · have hwh : refr.whole s5 = true := by rw [hs5]; rfl
      rw [hwh] at HWH
      obtain ⟨z, hz⟩ : ∃ z, z = opErr n0 n1 n2 np nt := ⟨_, rfl⟩
      have HEN : As (Calls Try.prog 41 #[.agg #[.int .i64 n0, .int .i64 n1, .int .i64 n2, .string (strOfNums p), .slice At nt ct]] wc fun e w' => ∃ v, e = .returned (.tuple #[v, .int .i64 z]) ∧ Kp [] wc w') := ⟨by
        refine (encode_any n0 n1 n2 (strOfNums p) At nt ct t wc HNT.out HQ.out.rd HQ.out.nil (by omega)).mono ?_
        rintro e w' ⟨v, rfl, _, K⟩
        exact ⟨v, by rw [hz, str_size, HNP.out, HNT.out], K⟩⟩
      by_cases hz0 : z = 0
      · have HZ : As (dOpR xs = ((n0 : Int), (n1 : Int), (n2 : Int), strOfNums p, t, 0)) := ⟨by rw [HE.out, if_pos ⟨hs5, by rw [← hz]; exact hz0⟩]⟩
        subst hz0
        clear hz hs5 hwh
        go_wp2_with (first
          | (go_at_call 75; refine HWH.out.mono ?_; rintro e w7 ⟨rfl, rfl⟩; clear HWH)
          | (go_at_call 41; refine HEN.out.mono ?_; rintro e w8 ⟨v8, rfl, k8⟩; have HK8 := As.mk k8; have HQ8 := As.mk (HQ.out.fr.res.kp k8 (by simp)); obtain ⟨d80, d81, d82, d83, d84⟩ := (HQ.out.op.kp k8 (by simp)).cells; obtain ⟨e80, e81, e82, e83, e84⟩ := HQ8.out.cells; have f80 := HQ8.out.free 0; have f81 := HQ8.out.free 1; have f82 := HQ8.out.free 2; have f83 := HQ8.out.free 3; have f84 := HQ8.out.free 4; clear k8 HEN))
        have hz := zero_op (HQ.out.fr.kp.trans HK8.out (by simp)) HQ8.out n0 n1 n2 (strOfNums p) At nt ct
        (try simp only [Exit.inBlock, Exit.then])
        refine bodyPost_ret (res_op rfl rfl hz.1) rfl ?_
        refine ⟨_, _, _, _, _, _, At, nt, ct, HZ.out, rfl, HNT.out, ?_, HQ.out.le, HQ.out.nil, hz.2.1⟩
        exact hz.2.2.rd (HK8.out.rd HQ.out.rd (fun _ _ => by simp)) (fun a ha hm => by have h9 := HQ.out.off a ha; simp at hm; omega)
      · have HZ : As (dOpR xs = (0, 0, 0, ⟨#[]⟩, [], 3)) := ⟨by rw [HE.out, if_neg]; rintro ⟨_, h9⟩; exact hz0 (by rw [hz]; exact h9)⟩
        have hzb : (z != 0) = true := by simpa using hz0
        clear hz hs5 hwh hz0
        go_wp2_with (first
          | (go_at_call 75; refine HWH.out.mono ?_; rintro e w7 ⟨rfl, rfl⟩; clear HWH)
          | (go_at_call 41; refine HEN.out.mono ?_; rintro e w8 ⟨v8, rfl, k8⟩; have HK8 := As.mk k8; have HQ8 := As.mk (HQ.out.fr.res.kp k8 (by simp)); obtain ⟨e80, e81, e82, e83, e84⟩ := HQ8.out.cells; have f80 := HQ8.out.free 0; have f81 := HQ8.out.free 1; have f82 := HQ8.out.free 2; have f83 := HQ8.out.free 3; have f84 := HQ8.out.free 4; clear k8 HEN))
        have hz := zero_op (HQ.out.fr.kp.trans HK8.out (by simp)) HQ8.out 0 0 0 ⟨#[]⟩ none 0 0
        (try simp only [Exit.inBlock, Exit.then])
        refine bodyPost_ret (res_op rfl rfl hz.1) rfl ?_
        exact odec_none HZ.out hz.2.1
    · have hwh : refr.whole s5 = false := by
        rw [Bool.eq_false_iff]
        intro h9
        exact hs5 (by simpa [refr.whole] using h9)
      rw [hwh] at HWH
      have HZ : As (dOpR xs = (0, 0, 0, ⟨#[]⟩, [], 3)) := ⟨by rw [HE.out, if_neg (fun h9 => hs5 h9.1)]⟩
      clear hs5 hwh
      go_wp2_with (go_at_call 75; refine HWH.out.mono ?_; rintro e w7 ⟨rfl, rfl⟩; clear HWH)
      have hz := zero_op HQ.out.fr.kp HQ.out.fr.res 0 0 0 ⟨#[]⟩ none 0 0
      (try simp only [Exit.inBlock, Exit.then])
      refine bodyPost_ret (res_op rfl rfl hz.1) rfl ?_
      exact odec_none HZ.out hz.2.1
end Go.Proofs.Ytlknlpiiogmfbaa.ref13
