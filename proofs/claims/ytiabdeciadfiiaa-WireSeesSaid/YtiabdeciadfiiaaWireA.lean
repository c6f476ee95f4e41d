/- wire.framed, wire.within, (Request).may, wire.Encode. -/
import Derived.Test.YtiabdeciadfiiaaFrameC
import Derived.Test.YtiabdeciadfiiaaFrameS
import Derived.Test.YtiabdeciadfiiaaBase
import Derived.Deep.Cut
namespace Go.Proofs.Ytiabdeciadfiiaa.wir
open Go.RowKit H O opk frame

/-- one byte on the Writer, out of a literal -/
theorem wr_byte {w wr : World} {b : Nat} {ys : List Int} (h : MW w b ys wr) (x : Int) (hy : ys.length ≤ 1000000) :
    Calls Try.prog 79 #[.pointer (some ⟨b, 0, none⟩), .slice (some ⟨wr.heap.size, 0, none⟩) 1 1] (wr.alloc (.cells #[.int .u8 x] 5)) fun e w' => e = .returned (.tuple #[]) ∧ MW w b (ys ++ [x]) w' := by
  obtain ⟨g, h1, h2⟩ := h.wr
  refine (writer.raw_any b g ys (some ⟨wr.heap.size, 0, none⟩) 1 1 [x] _ (h1.kp ((Kp.refl [] wr).alloc _) (by simp) (by simp)) rfl (rd_new wr _ _) (by simp) (by omega)).mono ?_
  rintro e w' ⟨rfl, g', W, A, K⟩
  exact ⟨rfl, (h.keep ((Kp.refl [] wr).alloc _)).next h2 W A K⟩
/-- bytes that were there before the Writer, with their length -/
theorem wr_row {w wr : World} {b : Nat} {ys : List Int} (h : MW w b ys wr) (A : Option Addr) (n c : Nat) (xs : List Int) (hn : xs.length = n) (hr : Rd w A (iv .u8 xs)) (hc : n ≤ c) (hnil : A = none → c = 0) (hy : ys.length ≤ 1000000) (hm : n ≤ 1000000) :
    Calls Try.prog 80 #[.pointer (some ⟨b, 0, none⟩), .slice (some ⟨wr.heap.size, 0, none⟩) 1 1] (wr.alloc (.cells #[.slice A n c] 26)) fun e w' => e = .returned (.tuple #[]) ∧ MW w b (ys ++ row xs) w' := by
  obtain ⟨g, h1, h2⟩ := h.wr
  have hl := h1.lt
  have hS : ∀ x ∈ b :: g.toList, w.heap.size ≤ x ∧ x < wr.heap.size := by
    intro x hx
    rcases List.mem_cons.1 hx with rfl | hx
    · exact ⟨h.lo, hl.1⟩
    · exact ⟨h2 x (by simpa using hx), hl.2 x (by simpa using hx)⟩
  have hrs := rs_cell (S := b :: g.toList) wr A xs n c hn hc hnil 26 (RdS.new hr h.kp (fun x hx => (hS x hx).1)) (fun x hx => (hS x hx).2)
  refine (writer.bytes_any b g ys (some ⟨wr.heap.size, 0, none⟩) 1 1 [xs] _ (h1.kp ((Kp.refl [] wr).alloc _) (by simp) (by simp)) rfl hrs (by simp; omega)).mono ?_
  rintro e w' ⟨rfl, g', W, A, K⟩
  rw [show rows [xs] = row xs from by simp [rows]] at W
  exact ⟨rfl, (h.keep ((Kp.refl [] wr).alloc _)).next h2 W A K⟩
/-- numbers on the Writer, whose slice was there before it -/
theorem wr_nums {w wr : World} {b : Nat} {ys : List Int} (h : MW w b ys wr) (A : Option Addr) (n c : Nat) (vs : List Int) (hn : vs.length = n) (hr : Rd w A (iv .i64 vs)) (hy : ys.length ≤ 1000000) (hm : n ≤ 1000000) :
    Calls Try.prog 39 #[.pointer (some ⟨b, 0, none⟩), .slice A n c] wr fun e w' => e = .returned (.tuple #[]) ∧ MW w b (ys ++ nums vs) w' := by
  obtain ⟨g, h1, h2⟩ := h.wr
  have hS : ∀ x ∈ b :: g.toList, w.heap.size ≤ x := by
    intro x hx
    rcases List.mem_cons.1 hx with rfl | hx
    · exact h.lo
    · exact h2 x (by simpa using hx)
  refine (writer.nums_any b g ys A n c vs wr h1 hn (RdS.new hr h.kp hS) (by omega)).mono ?_
  rintro e w' ⟨rfl, g', W, A, K⟩
  exact ⟨rfl, h.next h2 W A K⟩

/-- a request's, a reply's payload -/
def pay (mark : Int) (vs xs : List Int) : List Int := ([] ++ [mark] ++ nums vs) ++ row xs
theorem pay_len (mark : Int) (vs xs : List Int) (h : vs.length ≤ 3) : (pay mark vs xs).length ≤ 100 + xs.length := by
  have h1 := nums_len vs
  have h2 := num_len (xs.length : Int)
  simp only [pay, row, List.length_append, List.length_nil, List.length_singleton]
  omega
theorem pay_wf {mark : Int} {vs xs : List Int} (hm : 0 ≤ mark ∧ mark < 256) (hw : Wf xs) : Wf (pay mark vs xs) := by
  intro x hx
  rcases List.mem_append.1 hx with h | h
  · rcases List.mem_append.1 h with h | h
    · simp at h; omega
    · exact nums_u8 _ x h
  · rcases List.mem_append.1 h with h | h
    · exact num_u8 _ x h
    · exact hw x h

set_option maxHeartbeats 4000000 in
set_option maxRecDepth 100000 in
theorem framed_any (mark : Int) (A : Option Addr) (n c : Nat) (xs : List Int) (B : Option Addr) (m d : Nat) (vs : List Int) (w : World) (hmk : 0 ≤ mark ∧ mark < 256) (hn : xs.length = n) (hr : Rd w A (iv .u8 xs)) (hc : n ≤ c) (hnil : A = none → c = 0) (hw : Wf xs) (hm : vs.length = m) (hb : Rd w B (iv .i64 vs)) (hn9 : n ≤ 600000) (hm9 : m ≤ 3) :
    Calls Try.prog 61 #[.int .u8 mark, .slice A n c, .slice B m d] w (FEnc (pay mark vs xs) w) := by
  obtain ⟨p, hp⟩ : ∃ p, pay mark vs xs = p := ⟨_, rfl⟩
  obtain ⟨L, hL⟩ : ∃ L, p.length = L := ⟨_, rfl⟩
  have hL9 : L ≤ 600100 := by have := pay_len mark vs xs (by omega); rw [← hL, ← hp]; omega
  have hpw : Wf p := by rw [← hp]; exact pay_wf hmk hw
  have hl1 := nums_len vs
  have H1 : As (Calls Try.prog 79 #[.pointer (some ⟨w.heap.size, 0, none⟩), .slice (some ⟨w.heap.size + 1, 0, none⟩) 1 1] ((w.alloc (.cells #[.slice none 0 0] 79)).alloc (.cells #[.int .u8 mark] 5)) fun e w' => e = .returned (.tuple #[]) ∧ MW w w.heap.size ([] ++ [mark]) w') := ⟨by
    have := wr_byte (MW.new w) mark (by simp)
    rw [World.size_alloc] at this
    exact this⟩
  have H2 : As (∀ w1, MW w w.heap.size ([] ++ [mark]) w1 → Calls Try.prog 39 #[.pointer (some ⟨w.heap.size, 0, none⟩), .slice B m d] w1 fun e w' => e = .returned (.tuple #[]) ∧ MW w w.heap.size ([] ++ [mark] ++ nums vs) w') := ⟨fun w1 h1 => wr_nums h1 B m d vs hm hb (by simp) (by omega)⟩
  have H3 : As (∀ w1, MW w w.heap.size ([] ++ [mark] ++ nums vs) w1 → Calls Try.prog 80 #[.pointer (some ⟨w.heap.size, 0, none⟩), .slice (some ⟨w1.heap.size, 0, none⟩) 1 1] (w1.alloc (.cells #[.slice A n c] 26)) fun e w' => e = .returned (.tuple #[]) ∧ MW w w.heap.size p w') := ⟨fun w1 h1 => by
    have := wr_row h1 A n c xs hn hr hc hnil (by simp only [List.length_append, List.length_nil, List.length_singleton]; omega) (by omega)
    rw [show ([] ++ [mark] ++ nums vs) ++ row xs = p from hp] at this
    exact this⟩
  have H4 : As (∀ w2, MW w w.heap.size p w2 → Calls Try.prog 41 #[.pointer (some ⟨w.heap.size, 0, none⟩)] w2 (fun e w' => ∃ A2 c2, e = .returned (.slice A2 L c2) ∧ Rd w' A2 (iv .u8 p) ∧ L ≤ c2 ∧ (A2 = none → c2 = 0) ∧ Kp [] w w')) := ⟨fun w2 h2 => by
    refine (mat_out h2 (by omega)).mono ?_
    rintro e w' ⟨v, rfl, o, k⟩
    obtain ⟨A2, c2, rfl, h1, _, r, h3⟩ := own_rd o.1
    rw [hL] at h1 ⊢
    exact ⟨A2, c2, rfl, r, h1, h3, k⟩⟩
  have H5 : As (∀ w3 A2 c2, Rd w3 A2 (iv .u8 p) → L ≤ c2 → (A2 = none → c2 = 0) → Kp [] w w3 → Calls Try.prog 81 #[.slice (some ⟨w3.heap.size, 0, none⟩) 1 1] (w3.alloc (.cells #[.slice A2 L c2] 26)) (fun e w' => ∃ A c, e = .returned (.tuple #[.slice A (L + 12) c, .int .i64 0]) ∧ As (FEnc p w (.returned (.tuple #[.slice A (L + 12) c, .int .i64 0])) w'))) := ⟨fun w3 A2 c2 r h1 h2 k => by
    have hrs := rs_cell (S := []) w3 A2 p L c2 hL h1 h2 26 (RdS.new r (Kp.refl _ _) (by simp)) (by simp)
    have := enc_any (some ⟨w3.heap.size, 0, none⟩) 1 1 [p] _ rfl hrs (Nat.le_refl _) (by intro x hx; simp only [List.mem_singleton] at hx; subst hx; exact hpw) (by simp; omega) (by omega)
    rw [show [p].flatten = p from by simp] at this
    refine this.mono ?_
    rintro e w' ⟨A, c, rfl, k2, j, r2, h3, h4, h5⟩
    rw [hL] at j h3 ⊢
    have kA : Kp [] w (w3.alloc (.cells #[.slice A2 L c2] 26)) := k.alloc _
    refine ⟨A, c, rfl, ⟨A, c, ?_, kA.trans k2 (by simp), ?_, r2, ?_, h4, h5⟩⟩
    · rw [hL]
    · rw [hL]; exact j.lower kA.size
    · rw [hL]; exact h3⟩
  rw [hp]
  clear hp hL hpw hn hr hb hm hw
  go_enter Try.func61, Try.ntmps61
  go_wp2_with (first
    | (go_at_call 79; refine H1.out.mono ?_; rintro e w1 ⟨rfl, m1⟩; have HM1 := As.mk (H2.out w1 m1); clear m1 H1 H2)
    | (go_at_call 39; refine HM1.out.mono ?_; rintro e w2 ⟨rfl, m2⟩; have HM2 := As.mk (H3.out w2 m2); clear m2 H3 HM1)
    | (go_at_call 80; refine HM2.out.mono ?_; rintro e w3 ⟨rfl, m3⟩; have HM3 := As.mk (H4.out w3 m3); clear m3 H4 HM2)
    | (go_at_call 41; refine HM3.out.mono ?_; rintro e w4 ⟨A2, c2, rfl, r2, h1, h2, k4⟩; have HM4 := As.mk (H5.out w4 A2 c2 r2 h1 h2 k4); clear r2 h1 h2 k4 H5 HM3)
    | (go_at_call 81; refine HM4.out.mono ?_; rintro e w5 ⟨A5, c5, rfl, HE⟩; clear HM4))
  go_ret2
  exact HE.out
theorem ret_bool {a b : Bool} (h : a = b) : Ending.returned (.bool a) = .returned (.bool b) := by rw [h]
theorem within_any (n a m : Int) (w : World) : Calls Try.prog 78 #[.int .i64 n, .int .i64 a, .int .i64 m] w fun e w' => e = .returned (.bool (decide (a ≤ n ∧ n ≤ m))) ∧ w' = w := by
  go_enter Try.func78, Try.ntmps78
  by_cases h1 : a ≤ n
  · by_cases h2 : n ≤ m
    · go_wp2
      go_ret
      exact ⟨ret_bool (decide_eq_true (by omega)).symm, rfl⟩
    · go_wp2
      go_ret
      exact ⟨ret_bool (decide_eq_false (by omega)).symm, rfl⟩
  · go_wp2
    go_ret
    exact ⟨ret_bool (by simp; omega), rfl⟩

/-- may a request be? -/
def rqOk (k c s : Int) : Bool := decide (1 ≤ k ∧ k ≤ 4) && decide (0 ≤ c ∧ c ≤ 1099511627776) && decide (0 ≤ s ∧ s ≤ 255)
set_option maxHeartbeats 4000000 in
set_option maxRecDepth 100000 in
theorem rmay_any (k c s : Int) (v : Value) (w : World) : Calls Try.prog 60 #[.agg #[.int .i64 k, .int .i64 c, .int .i64 s, v]] w fun e w' => e = .returned (.bool (rqOk k c s)) ∧ Kp [] w w' := by
  have hbX := heap_alloc_new w (.cells #[.int .i64 k, .int .i64 c, .int .i64 s, v] 68)
  have HK : As (Kp [] w (w.alloc (.cells #[.int .i64 k, .int .i64 c, .int .i64 s, v] 68))) := ⟨(Kp.refl [] w).alloc _⟩
  have x0 := blk_cell hbX 0 rfl
  have x1 := blk_cell hbX 1 rfl
  have x2 := blk_cell hbX 2 rfl
  obtain ⟨b0, hb0⟩ : ∃ b, decide (1 ≤ k ∧ k ≤ 4) = b := ⟨_, rfl⟩
  obtain ⟨b1, hb1⟩ : ∃ b, decide (0 ≤ c ∧ c ≤ 1099511627776) = b := ⟨_, rfl⟩
  obtain ⟨b2, hb2⟩ : ∃ b, decide (0 ≤ s ∧ s ≤ 255) = b := ⟨_, rfl⟩
  have H0 := As.mk (fun wX => within_any k 1 4 wX)
  have H1 := As.mk (fun wX => within_any c 0 1099511627776 wX)
  have H2 := As.mk (fun wX => within_any s 0 255 wX)
  rw [hb0] at H0
  rw [hb1] at H1
  rw [hb2] at H2
  have HF : As (rqOk k c s = (b0 && b1 && b2)) := ⟨by rw [rqOk, hb0, hb1, hb2]⟩
  clear hbX hb0 hb1 hb2
  go_enter Try.func60, Try.ntmps60
  cases b0 <;> cases b1 <;> cases b2
  all_goals go_wp2_with (first
    | (go_at_call 78; refine (H0.out _).mono ?_; rintro e w1 ⟨rfl, rfl⟩; clear H0)
    | (go_at_call 78; refine (H1.out _).mono ?_; rintro e w2 ⟨rfl, rfl⟩; clear H1)
    | (go_at_call 78; refine (H2.out _).mono ?_; rintro e w3 ⟨rfl, rfl⟩; clear H2))
  all_goals go_ret
  all_goals exact ⟨ret_bool (by rw [HF.out]; rfl), HK.out⟩

/-- behind Encode: refused (1), or the record -/
def EncPost (k c s : Int) (xs : List Int) (w : World) (e : Ending) (w' : World) : Prop :=
  (rqOk k c s = false ∧ e = .returned (.tuple #[.slice none 0 0, .int .i64 1]) ∧ Kp [] w w') ∨ (rqOk k c s = true ∧ FEnc (pay 113 [k, c, s] xs) w e w')
set_option maxHeartbeats 4000000 in
set_option maxRecDepth 100000 in
theorem encode_any (k c s : Int) (A : Option Addr) (n cp : Nat) (xs : List Int) (w : World) (hn : xs.length = n) (hr : Rd w A (iv .u8 xs)) (hc : n ≤ cp) (hnil : A = none → cp = 0) (hw : Wf xs) (hn9 : n ≤ 8192) :
    Calls Try.prog 34 #[.agg #[.int .i64 k, .int .i64 c, .int .i64 s, .slice A n cp]] w (EncPost k c s xs w) := by
  have hbX := heap_alloc_new w (.cells #[.int .i64 k, .int .i64 c, .int .i64 s, .slice A n cp] 68)
  obtain ⟨w1, hw1⟩ : ∃ w1, w.alloc (.cells #[.int .i64 k, .int .i64 c, .int .i64 s, .slice A n cp] 68) = w1 := ⟨_, rfl⟩
  rw [hw1] at hbX
  have HBX := As.mk hbX
  have HK1 : As (Kp [] w w1) := ⟨by rw [← hw1]; exact (Kp.refl [] w).alloc _⟩
  have HMY := As.mk (rmay_any k c s (.slice A n cp) w1)
  obtain ⟨ok, hok⟩ : ∃ b, rqOk k c s = b := ⟨_, rfl⟩
  rw [hok] at HMY
  have HOK := As.mk hok
  obtain ⟨p, hp⟩ : ∃ p, pay 113 [k, c, s] xs = p := ⟨_, rfl⟩
  have HP := As.mk hp
  obtain ⟨L, hL⟩ : ∃ L, p.length = L := ⟨_, rfl⟩
  have HL := As.mk hL
  have HFR : As (∀ w2, Kp [] w w2 → Calls Try.prog 61 #[.int .u8 113, .slice A n cp, .slice (some ⟨w2.heap.size, 0, none⟩) 3 3] (w2.alloc (.cells #[.int .i64 k, .int .i64 c, .int .i64 s] 3)) (fun e w' => ∃ A c, e = .returned (.tuple #[.slice A (L + 12) c, .int .i64 0]) ∧ As (FEnc p w (.returned (.tuple #[.slice A (L + 12) c, .int .i64 0])) w'))) := ⟨fun w2 k2 => by
    have kA : Kp [] w2 (w2.alloc (.cells #[.int .i64 k, .int .i64 c, .int .i64 s] 3)) := (Kp.refl [] w2).alloc _
    refine (framed_any 113 A n cp xs (some ⟨w2.heap.size, 0, none⟩) 3 3 [k, c, s] _ (by omega) hn ((k2.trans kA (by simp)).rd_new hr (by simp)) hc hnil hw rfl (rd_new w2 _ _) (by omega) (by omega)).mono ?_
    rw [hp]
    rintro e w' ⟨A, c, rfl, k3, j, r2, h3, h4, h5⟩
    rw [hL] at j h3 ⊢
    have kB := k2.trans kA (by simp)
    refine ⟨A, c, rfl, ⟨A, c, ?_, kB.trans k3 (by simp), ?_, r2, ?_, h4, h5⟩⟩
    · rw [hL]
    · rw [hL]; exact j.lower kB.size
    · rw [hL]; exact h3⟩
  have x0 := blk_cell hbX 0 rfl
  have x1 := blk_cell hbX 1 rfl
  have x2 := blk_cell hbX 2 rfl
  have x3 := blk_cell hbX 3 rfl
  unfold EncPost
  rw [hp, hok]
  clear hbX hn hr hw hok hp hL
  go_enter Try.func34, Try.ntmps34
  go_upto_region 1 with fail
  clear hw1
  cases ok
  · go_wp2_with (go_at_call 60; refine HMY.out.mono ?_; rintro e w2 ⟨rfl, k2⟩; have HK2 : As (Kp [] w w2) := ⟨HK1.out.trans k2 (by simp)⟩; clear k2 HMY)
    go_ret2
    exact ⟨rfl, HK2.out⟩
  · go_wp2_with (first
      | (go_at_call 60; refine HMY.out.mono ?_; rintro e w2 ⟨rfl, k2⟩; have HK2 : As (Kp [] w w2) := ⟨HK1.out.trans k2 (by simp)⟩; have y0 := k2.cell x0 (by simp); have y1 := k2.cell x1 (by simp); have y2 := k2.cell x2 (by simp); have y3 := k2.cell x3 (by simp); have HF2 := As.mk (HFR.out w2 HK2.out); clear k2 HMY HFR)
      | (go_at_call 61; refine HF2.out.mono ?_; rintro e w3 ⟨A3, c3, rfl, HE⟩; clear HF2))
    go_ret2
    exact HE.out
end Go.Proofs.Ytiabdeciadfiiaa.wir
