/- op.Encode. -/
import Derived.Test.YtlknlpiiogmfbaaOpA
namespace Go.Proofs.Ytlknlpiiogmfbaa.opk
open Go.RowKit H O

theorem rd_new1 {w : World} (vs : List Value) (t : TypeId) : Rd (w.alloc (.cells vs.toArray t)) (some ⟨w.heap.size, 0, none⟩) vs := by
  intro j v hv
  refine ⟨_, rfl, ?_⟩
  rw [Addr.add_lit, World.cell?_alloc_new]
  simpa using hv
/-- a list of two rows, newly laid -/
theorem rs_two' {S : List Nat} {w : World} {A3 A4 : Option Addr} {n3 c3 n4 c4 : Nat} {xs ys : List Int} (h3 : xs.length = n3) (h4 : ys.length = n4) (r3 : RdS S w A3 (iv .u8 xs)) (r4 : RdS S w A4 (iv .u8 ys)) (l3 : n3 ≤ c3) (l4 : n4 ≤ c4) (e3 : A3 = none → c3 = 0) (e4 : A4 = none → c4 = 0) (u : TypeId)
    (hS : ∀ x ∈ S, x < w.heap.size) :
    Rs S (w.alloc (.cells #[.slice A3 n3 c3, .slice A4 n4 c4] u)) (some ⟨w.heap.size, 0, none⟩) [xs, ys] := by
  subst h3 h4
  intro j hj
  have k := (Kp.refl [] w).alloc (.cells #[.slice A3 xs.length c3, .slice A4 ys.length c4] u)
  have hc := World.cell?_alloc_new w #[.slice A3 xs.length c3, .slice A4 ys.length c4] u j
  match j, hj, hc with
  | 0, hj, hc => exact ⟨_, A3, c3, rfl, fun hm => by have := hS _ hm; simp at this, by rw [add_zero']; exact hc, l3, e3, r3.kp k (by simp)⟩
  | 1, hj, hc => exact ⟨_, A4, c4, rfl, fun hm => by have := hS _ hm; simp at this, by rw [Addr.add_lit]; exact hc, l4, e4, r4.kp k (by simp)⟩

/-- behind Encode -/
def EncPost (k cl sq : Int) (key : ByteArray) (text : List Int) (w : World) (e : Ending) (w' : World) : Prop :=
  ∃ v, e = .returned (.tuple #[v, .int .i64 (opErr k cl sq key.size text.length)]) ∧ Own 5 .u8 w' w.heap.size v (if opErr k cl sq key.size text.length = 0 then opBytes k cl sq key text else []) ∧ Kp [] w w'

theorem enc_none {k cl sq : Int} {key : ByteArray} {text : List Int} {w w' : World} {z : Int} (hz : z = opErr k cl sq key.size text.length) (h0 : z ≠ 0) (hk : Kp [] w w') : EncPost k cl sq key text w (.returned (.tuple #[.slice none 0 0, .int .i64 z])) w' := by
  subst hz
  refine ⟨_, rfl, ?_, hk⟩
  rw [if_neg h0]
  exact Own.nil _ _ _ _

/-- An op's block, as it lies. -/
def OpAt (w : World) (b : Nat) (k cl sq : Int) (key : ByteArray) (A : Option Addr) (n c : Nat) : Prop :=
  w.heap[b]? = some (.cells #[.int .i64 k, .int .i64 cl, .int .i64 sq, .string key, .slice A n c] 47)
theorem OpAt.cells {w : World} {b : Nat} {k cl sq : Int} {key : ByteArray} {A : Option Addr} {n c : Nat} (h : OpAt w b k cl sq key A n c) :
    w.cell? ⟨b, 0, none⟩ = some (.int .i64 k) ∧ w.cell? ⟨b, 1, none⟩ = some (.int .i64 cl) ∧ w.cell? ⟨b, 2, none⟩ = some (.int .i64 sq) ∧ w.cell? ⟨b, 3, none⟩ = some (.string key) ∧ w.cell? ⟨b, 4, none⟩ = some (.slice A n c) :=
  ⟨blk_cell h 0 rfl, blk_cell h 1 rfl, blk_cell h 2 rfl, blk_cell h 3 rfl, blk_cell h 4 rfl⟩
theorem OpAt.new (w : World) (k cl sq : Int) (key : ByteArray) (A : Option Addr) (n c : Nat) :
    OpAt (w.alloc (.cells #[.int .i64 k, .int .i64 cl, .int .i64 sq, .string key, .slice A n c] 47)) w.heap.size k cl sq key A n c := heap_alloc_new w _
theorem OpAt.kp {S : List Nat} {w w1 : World} {b : Nat} {k cl sq : Int} {key : ByteArray} {A : Option Addr} {n c : Nat} (h : OpAt w b k cl sq key A n c) (hk : Kp S w w1) (hb : b ∉ S) : OpAt w1 b k cl sq key A n c := hk.blk h hb
theorem heap_bytes (w : World) (e : TypeId) (s : ByteArray) (k : Nat) (o : Obj) (h : w.heap[k]? = some o) : (Lib.bytesWorld w e s).heap[k]? = some o := by
  rw [Lib.bytesWorld_at_old w e s k (lt_of_block h)]
  exact h
/-- A conversion's row, none of it in the blocks S. -/
theorem rds_bytes {S : List Nat} (w : World) (e : TypeId) (s : ByteArray) (hS : ∀ x ∈ S, x < w.heap.size) : RdS S (Lib.bytesWorld w e s) (some ⟨w.heap.size, 0, none⟩) (iv .u8 (kb s)) := by
  intro j v hv
  obtain ⟨a, ha, hc⟩ := rd_bytes w e s j v hv
  cases ha
  exact ⟨_, rfl, fun hm => by have := hS _ hm; simp at this, hc⟩
theorem rows2_len (a b : List Int) : (rows [a, b]).length ≤ 18 + a.length + b.length := by
  have := rows_len [a, b]
  simp only [List.length_cons, List.length_nil, List.flatten_cons, List.flatten_nil, List.length_append] at this
  omega

theorem enc_done {k cl sq : Int} {key : ByteArray} {text : List Int} {w w' : World} {v : Value} (he : opErr k cl sq key.size text.length = 0) (ho : Own 5 .u8 w' w.heap.size v (nums [k, cl, sq] ++ rows [kb key, text])) (hk : Kp [] w w') :
    EncPost k cl sq key text w (.returned (.tuple #[v, .int .i64 0])) w' := by
  refine ⟨v, by rw [he], ?_, hk⟩
  rw [he, if_pos rfl]
  exact ho
theorem nums3_len (a b c : Int) : (nums [a, b, c]).length ≤ 1000000 := by
  have := nums_len [a, b, c]
  simp only [List.length_cons, List.length_nil] at this
  omega
/-- the Writer, new, and its three numbers -/
theorem enc_nums (w : World) (k cl sq : Int) : Calls Try.prog 58 #[.pointer (some ⟨w.heap.size, 0, none⟩), .slice (some ⟨w.heap.size + 1, 0, none⟩) 3 3]
    ((w.alloc (.cells #[.slice none 0 0] 85)).alloc (.cells #[.int .i64 k, .int .i64 cl, .int .i64 sq] 3))
    (fun e w' => e = .returned (.tuple #[]) ∧ ∃ g, writer.Wr w' w.heap.size g (nums [k, cl, sq]) ∧ (∀ x, g = some x → w.heap.size < x) ∧ Kp [] w w' ∧ w.heap.size < w'.heap.size) := by
  have h := writer.nums_any w.heap.size none [] (some ⟨w.heap.size + 1, 0, none⟩) 3 3 [k, cl, sq] ((w.alloc (.cells #[.slice none 0 0] 85)).alloc (.cells #[.int .i64 k, .int .i64 cl, .int .i64 sq] 3))
    ((writer.Wr.new w).kp ((Kp.refl [] _).alloc _) (by simp) (by simp)) rfl (by
      have := RdS.lit (S := [w.heap.size]) (w.alloc (.cells #[.slice none 0 0] 85)) [.int .i64 k, .int .i64 cl, .int .i64 sq] 3 (by simp)
      simpa [iv] using this) (by decide)
  refine h.mono ?_
  rintro e w' ⟨rfl, g, W1, A1, K1⟩
  refine ⟨rfl, g, by simpa using W1, ?_, (((Kp.refl [] w).alloc _).alloc _).trans K1 (by simp), ?_⟩
  · intro x hx
    rcases A1 with h | ⟨j, h, hj⟩
    · rw [h] at hx; cases hx
    · rw [h] at hx; have := Option.some.inj hx; simp at hj; omega
  · have := K1.size
    simp at this
    omega
/-- the key and the text, on the Writer; and out -/
theorem enc_rows {w w3 : World} {b : Nat} {g : Option Nat} {ys : List Int} (key : ByteArray) (m : Nat) (hkm : key.size = m) (A : Option Addr) (n c : Nat) (text : List Int) (hn : text.length = n) (hr : Rd w A (iv .u8 text)) (hc : n ≤ c) (hnil : A = none → c = 0)
    (W3 : writer.Wr w3 b g ys) (hb : w.heap.size ≤ b) (hg : ∀ x, g = some x → w.heap.size ≤ x) (K3 : Kp [] w w3) (hm : m ≤ 1000000) (hn4 : n ≤ 1000000) (hy : ys.length ≤ 1000000) :
    Calls Try.prog 59 #[.pointer (some ⟨b, 0, none⟩), .slice (some ⟨w3.heap.size + 1, 0, none⟩) 2 2]
      ((Lib.bytesWorld w3 5 key).alloc (.cells #[.slice (some ⟨w3.heap.size, 0, none⟩) m (grownCap w3 m 0 5), .slice A n c] 22))
      (fun e w' => e = .returned (.tuple #[]) ∧ (Calls Try.prog 60 #[.pointer (some ⟨b, 0, none⟩)] w' fun e w'' => ∃ v, e = .returned v ∧ Own 5 .u8 w'' w.heap.size v (ys ++ rows [kb key, text]) ∧ Kp [] w w'')) := by
  have hlt := W3.lt
  have hs := K3.size
  have kB := kp_bytes (Kp.refl [] w3) 5 key
  have hsz := Lib.bytesWorld_size w3 5 key
  obtain ⟨w4, hw4⟩ : ∃ w4, w4 = Lib.bytesWorld w3 5 key := ⟨_, rfl⟩
  have hS : ∀ x ∈ b :: g.toList, w.heap.size ≤ x ∧ x < w3.heap.size := by
    intro x hx
    rcases List.mem_cons.1 hx with rfl | hx
    · exact ⟨hb, hlt.1⟩
    · exact ⟨hg x (by simpa using hx), hlt.2 x (by simpa using hx)⟩
  have hrk := rds_bytes (S := b :: g.toList) w3 5 key (fun x hx => (hS x hx).2)
  rw [← hw4] at kB hsz hrk ⊢
  have hrs := rs_two' (S := b :: g.toList) (w := w4) (n3 := m) (c3 := grownCap w3 m 0 5) (c4 := c) (by rw [kb_len, hkm]) hn hrk (RdS.new hr (K3.trans kB (by simp)) (fun x hx => (hS x hx).1)) (grownCap_ge _ _ _ _) hc (by simp) hnil 22 (fun x hx => by have := (hS x hx).2; omega)
  rw [hsz] at hrs
  have h := writer.bytes_any b g ys (some ⟨w3.heap.size + 1, 0, none⟩) 2 2 [kb key, text] _ ((W3.kp kB (by simp) (by simp)).kp ((Kp.refl [] w4).alloc (.cells #[.slice (some ⟨w3.heap.size, 0, none⟩) m (grownCap w3 m 0 5), .slice A n c] 22)) (by simp) (by simp)) rfl hrs (by simp [kb_len, hkm, hn]; omega)
  refine h.mono ?_
  rintro e w5 ⟨rfl, g5, W5, A5, K5⟩
  refine ⟨rfl, ?_⟩
  have hl := rows2_len (kb key) text
  rw [kb_len] at hl
  have K5' : Kp [] w w5 := ((K3.trans kB (by simp)).alloc _).trans K5 (fun x hx => .inr (hS x hx).1)
  refine (writer.out_any b g5 _ w5 W5 (by rw [List.length_append]; omega)).mono ?_
  rintro e w6 ⟨v, rfl, O6, K6⟩
  exact ⟨v, rfl, O6.lower K5'.size, K5'.trans K6 (by simp)⟩

set_option maxHeartbeats 4000000 in
set_option maxRecDepth 100000 in
-- PART P
theorem encode_ok (k cl sq : Int) (key : ByteArray) (m : Nat) (hkm : key.size = m) (A : Option Addr) (n c : Nat) (text : List Int) (w : World) (hn : text.length = n) (hr : Rd w A (iv .u8 text)) (hc : n ≤ c) (hnil : A = none → c = 0)
    (hk : k = 1 ∨ (k = 2 ∧ ¬ 0 < n)) (hb2 : (within1 cl && within1 sq) = true) (hb3 : 1 ≤ m ∧ m ≤ 64) (hb5 : n ≤ 4096) (he : opErr k cl sq m n = 0) :
    Calls Try.prog 27 #[.agg #[.int .i64 k, .int .i64 cl, .int .i64 sq, .string key, .slice A n c]] w (EncPost k cl sq key text w) := by
  have HR := As.mk hr
  have HN := As.mk hn
  have HC := As.mk hc
  have HNL := As.mk hnil
  have HE : As (opErr k cl sq key.size text.length = 0) := ⟨by rw [hkm, hn]; exact he⟩
  have HKM := As.mk hkm
  have HM64 := As.mk hb3.2
  have HW := As.mk (within_any (some ⟨w.heap.size + 1, 0, none⟩) 2 2 [cl, sq] ((w.alloc (.cells #[.int .i64 k, .int .i64 cl, .int .i64 sq, .string key, .slice A n c] 47)).alloc (.cells #[.int .i64 cl, .int .i64 sq] 3)) rfl
    (by have := rd_new1 (w := w.alloc (.cells #[.int .i64 k, .int .i64 cl, .int .i64 sq, .string key, .slice A n c] 47)) (iv .i64 [cl, sq]) 3; simpa [iv] using this) (by decide))
  have HBX0 : As (∀ w1, w1 = (w.alloc (.cells #[.int .i64 k, .int .i64 cl, .int .i64 sq, .string key, .slice A n c] 47)).alloc (.cells #[.int .i64 cl, .int .i64 sq] 3) →
      OpAt w1 w.heap.size k cl sq key A n c ∧ Kp [] w w1 ∧ w.heap.size < w1.heap.size) :=
    ⟨by rintro w1 rfl; exact ⟨blk_alloc (heap_alloc_new w _) _, ((Kp.refl [] w).alloc _).alloc _, by simp; omega⟩⟩
  have HI := As.mk (isKey_any key)
  have HB2 : As ([cl, sq].all within1 = true) := ⟨by simpa using hb2⟩
  have HB3 : As (decide (1 ≤ key.size ∧ key.size ≤ 64) = true) := ⟨by rw [decide_eq_true (by omega)]⟩
  rw [HB2.out] at HW
  rw [HB3.out] at HI
  have HCV : As (∀ w, (convert 9 22 (.string key)).run Try.prog w = .ok (.slice (some ⟨w.heap.size, 0, none⟩) m (grownCap w m 0 5)) (Lib.bytesWorld w 5 key)) := ⟨fun w => by
    rw [← hkm]
    exact Lib.run_convert_string_bytes w 9 22 5 key Try.underlying9 Try.underlying22 Try.underlying5⟩
  clear hr hn hc hnil he hkm hb2 hb3 HB2 HB3
  rcases hk with rfl | ⟨rfl, hn0⟩
  all_goals
    go_enter Try.func27, Try.ntmps27
    go_wp2_with (first
      | (go_at_call 56; (refine HW.out.mono ?_; rintro e w1 ⟨rfl, hw1⟩; obtain ⟨hbx, hk1, hs1⟩ := HBX0.out w1 hw1; have HBX := As.mk hbx; have HK1 := As.mk hk1; have HS1 := As.mk hs1; have hlt1 := hs1; obtain ⟨d0, d1, d2, d3, d4⟩ := hbx.cells; clear HW HBX0 hw1 hbx hk1 hs1))
      | (go_at_call 57; refine (HI.out _).mono ?_; rintro e w2 ⟨rfl, rfl⟩)
      | (go_at_call 58; refine (enc_nums _ _ _ _).mono ?_; rintro e w3 ⟨rfl, g3, W3, G3, K3, s3⟩; obtain ⟨e0, e1, e2, e3, e4⟩ := (HBX.out.kp K3 (by simp)).cells; have hsz4 := Lib.bytesWorld_size w3 5 key; have f4 := (Lib.bytesWorld_old w3 5 key ⟨w.heap.size, 4, none⟩ (Nat.lt_trans HS1.out s3)).trans e4; have hcv3 := HCV.out w3; have HROW := As.mk (enc_rows key m HKM.out A n c text HN.out HR.out HC.out HNL.out W3 HK1.out.size (fun x hx => Nat.le_trans HK1.out.size (Nat.le_of_lt (G3 x hx))) (HK1.out.trans K3 (by simp)) (by have := HM64.out; omega) (by omega) (nums3_len _ _ _)); clear W3 G3 K3 s3 hlt1 d0 d1 d2 d3 d4)
      | (go_at_call 59; refine HROW.out.mono ?_; rintro e w5 ⟨rfl, ho⟩; have HO := As.mk ho; clear ho HROW)
      | (go_at_call 60; refine HO.out.mono ?_; rintro e w6 ⟨v, rfl, O6, K6⟩; have HO6 := As.mk O6; have HK6 := As.mk K6; clear O6 K6 HO))
    go_ret2
    exact enc_done HE.out HO6.out HK6.out
-- END P
theorem opErr_ne {k cl sq : Int} {m n : Nat} : opErr k cl sq m n = 0 ↔ (k = 1 ∨ (k = 2 ∧ ¬ 0 < n)) ∧ (within1 cl && within1 sq) = true ∧ (1 ≤ m ∧ m ≤ 64) ∧ n ≤ 4096 := by
  unfold opErr
  cases hb : (within1 cl && within1 sq) <;> split <;> rename_i h
  · simp
  · simp at h
  · simp only [Bool.true_eq_false, false_or] at h
    constructor
    · intro h0; cases h0
    · rintro ⟨h1, -, h2, h3⟩; omega
  · simp only [Bool.true_eq_false, false_or] at h
    split
    · constructor
      · intro h0; cases h0
      · rintro ⟨h1, -, h2, h3⟩; omega
    · constructor
      · intro _; exact ⟨by omega, rfl, by omega, by omega⟩
      · intro _; rfl

set_option maxHeartbeats 4000000 in
set_option maxRecDepth 100000 in
-- PART Q
theorem encode_no (k cl sq : Int) (key : ByteArray) (m : Nat) (hkm : key.size = m) (A : Option Addr) (n c : Nat) (text : List Int) (w : World) (hn : text.length = n) (hm : n ≤ 4611686018427387904) (he : opErr k cl sq m n ≠ 0) :
    Calls Try.prog 27 #[.agg #[.int .i64 k, .int .i64 cl, .int .i64 sq, .string key, .slice A n c]] w (EncPost k cl sq key text w) := by
  have HWX : As (∀ b, (within1 cl && within1 sq) = b → Calls Try.prog 56 #[.slice (some ⟨w.heap.size + 1, 0, none⟩) 2 2] ((w.alloc (.cells #[.int .i64 k, .int .i64 cl, .int .i64 sq, .string key, .slice A n c] 47)).alloc (.cells #[.int .i64 cl, .int .i64 sq] 3))
    fun e w1 => e = .returned (.bool b) ∧ OpAt w1 w.heap.size k cl sq key A n c ∧ Kp [] w w1 ∧ w.heap.size < w1.heap.size) := ⟨fun b hb => by
      refine (within_any (some ⟨w.heap.size + 1, 0, none⟩) 2 2 [cl, sq] ((w.alloc (.cells #[.int .i64 k, .int .i64 cl, .int .i64 sq, .string key, .slice A n c] 47)).alloc (.cells #[.int .i64 cl, .int .i64 sq] 3)) rfl
        (by have := rd_new1 (w := w.alloc (.cells #[.int .i64 k, .int .i64 cl, .int .i64 sq, .string key, .slice A n c] 47)) (iv .i64 [cl, sq]) 3; simpa [iv] using this) (by decide)).mono ?_
      rintro e w1 ⟨rfl, rfl⟩
      refine ⟨by rw [← hb]; simp, blk_alloc (heap_alloc_new w _) _, ((Kp.refl [] w).alloc _).alloc _, by simp; omega⟩⟩
  have HIX : As (∀ b, decide (1 ≤ m ∧ m ≤ 64) = b → ∀ w, Calls Try.prog 57 #[.string key] w fun e w' => e = .returned (.bool b) ∧ w' = w) := ⟨fun b hb w => by
    have h := isKey_any key w
    rwa [hkm, hb] at h⟩
  by_cases h1 : k = 1 ∨ k = 2
  · cases hw : (within1 cl && within1 sq) with
    | false =>
      have HE : As (1 = opErr k cl sq key.size text.length) := ⟨by rw [opErr, if_pos (.inr (.inl hw))]⟩
      have HW := As.mk (HWX.out false hw)
      clear hw he HWX HIX hn hkm
      rcases h1 with rfl | rfl
      all_goals
        go_enter Try.func27, Try.ntmps27
        go_wp2_with (go_at_call 56; refine HW.out.mono ?_; rintro e w1 ⟨rfl, hbx, hk1, hs1⟩; have HK1 := As.mk hk1; clear HW hbx hk1 hs1)
        go_ret2
        exact enc_none HE.out (by decide) HK1.out
    | true =>
      have HW := As.mk (HWX.out true hw)
      cases hb : decide (1 ≤ m ∧ m ≤ 64) with
      | false =>
        have HE : As (1 = opErr k cl sq key.size text.length) := ⟨by rw [hkm, opErr, if_pos (.inr (.inr (.inl (of_decide_eq_false hb))))]⟩
        have HI := As.mk (HIX.out false hb)
        clear hw he HWX HIX hn hkm hb
        rcases h1 with rfl | rfl
        all_goals
          go_enter Try.func27, Try.ntmps27
          go_wp2_with (first
            | (go_at_call 56; refine HW.out.mono ?_; rintro e w1 ⟨rfl, hbx, hk1, hs1⟩; have HK1 := As.mk hk1; obtain ⟨d0, d1, d2, d3, d4⟩ := hbx.cells; clear HW hbx hk1 hs1)
            | (go_at_call 57; refine (HI.out _).mono ?_; rintro e w2 ⟨rfl, rfl⟩))
          go_ret2
          exact enc_none HE.out (by decide) HK1.out
      | true =>
        have HI := As.mk (HIX.out true hb)
        by_cases h2 : k = 2 ∧ 0 < n
        · have HE : As (1 = opErr k cl sq key.size text.length) := ⟨by rw [hkm, hn, opErr, if_pos (.inr (.inr (.inr h2)))]⟩
          clear hw he HWX HIX hn hkm hb h1
          obtain ⟨rfl, hn0⟩ := h2
          go_enter Try.func27, Try.ntmps27
          go_wp2_with (first
            | (go_at_call 56; refine HW.out.mono ?_; rintro e w1 ⟨rfl, hbx, hk1, hs1⟩; have HK1 := As.mk hk1; obtain ⟨d0, d1, d2, d3, d4⟩ := hbx.cells; clear HW hbx hk1 hs1)
            | (go_at_call 57; refine (HI.out _).mono ?_; rintro e w2 ⟨rfl, rfl⟩))
          go_ret2
          exact enc_none HE.out (by decide) HK1.out
        · have hmk := of_decide_eq_true hb
          have hn5 : 4096 < n := by
            rcases Nat.lt_or_ge 4096 n with h | h
            · exact h
            · exact absurd (opErr_ne.2 ⟨by omega, hw, hmk, h⟩) he
          have hk1 : k = 1 := by omega
          have HE : As (5 = opErr k cl sq key.size text.length) := ⟨by rw [hkm, hn, opErr, if_neg (by rw [hw]; simp only [Bool.true_eq_false, false_or]; omega), if_pos hn5]⟩
          clear hw he HWX HIX hn hkm hb h1 hmk h2
          subst hk1
          go_enter Try.func27, Try.ntmps27
          go_wp2_with (first
            | (go_at_call 56; refine HW.out.mono ?_; rintro e w1 ⟨rfl, hbx, hk1, hs1⟩; have HK1 := As.mk hk1; obtain ⟨d0, d1, d2, d3, d4⟩ := hbx.cells; clear HW hbx hk1 hs1)
            | (go_at_call 57; refine (HI.out _).mono ?_; rintro e w2 ⟨rfl, rfl⟩))
          go_ret2
          exact enc_none HE.out (by decide) HK1.out
  · have HE : As (1 = opErr k cl sq key.size text.length) := ⟨by rw [opErr, if_pos (.inl (by omega))]⟩
    have hk1 : (k != 1) = true := by simp; omega
    have hk2 : (k != 2) = true := by simp; omega
    have HK1 := As.mk ((Kp.refl [] w).alloc (.cells #[.int .i64 k, .int .i64 cl, .int .i64 sq, .string key, .slice A n c] 47))
    clear h1 he HWX HIX hn hkm
    go_enter Try.func27, Try.ntmps27
    go_wp2
    go_ret2
    exact enc_none HE.out (by decide) HK1.out
-- END Q

/-- Encode -/
theorem encode_any (k cl sq : Int) (key : ByteArray) (A : Option Addr) (n c : Nat) (text : List Int) (w : World) (hn : text.length = n) (hr : Rd w A (iv .u8 text)) (hc : n ≤ c) (hnil : A = none → c = 0) (hm : n ≤ 4611686018427387904) :
    Calls Try.prog 27 #[.agg #[.int .i64 k, .int .i64 cl, .int .i64 sq, .string key, .slice A n c]] w (EncPost k cl sq key text w) := by
  by_cases h : opErr k cl sq key.size n = 0
  · obtain ⟨h1, h2, h3, h4⟩ := opErr_ne.1 h
    exact encode_ok k cl sq key _ rfl A n c text w hn hr hc hnil h1 h2 h3 h4 h
  · exact encode_no k cl sq key _ rfl A n c text w hn hm h
end Go.Proofs.Ytlknlpiiogmfbaa.opk
