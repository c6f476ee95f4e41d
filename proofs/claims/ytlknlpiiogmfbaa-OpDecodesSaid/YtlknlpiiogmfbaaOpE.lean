/- op.Decode. -/
import Derived.Test.YtlknlpiiogmfbaaOpD
import Derived.Test.YtlknlpiiogmfbaaReader2
import Derived.Test.YtlknlpiiogmfbaaFrameA
namespace Go.Proofs.Ytlknlpiiogmfbaa.opk
open Go.RowKit H O haystacklaw13

/-- An op's block: as long as nothing else is said. -/
theorem OpAt.free {w : World} {b : Nat} {k cl sq : Int} {key : ByteArray} {A : Option Addr} {n c : Nat} (h : OpAt w b k cl sq key A n c) (j : Nat) : w.frozen? ⟨b, j, none⟩ = false := blk_free h j
theorem OpAt.set {w : World} {b : Nat} {k cl sq : Int} {key : ByteArray} {A : Option Addr} {n c : Nat} (h : OpAt w b k cl sq key A n c) :
    (∀ v, OpAt (w.setCell ⟨b, 0, none⟩ (.int .i64 v)) b v cl sq key A n c) ∧ (∀ v, OpAt (w.setCell ⟨b, 1, none⟩ (.int .i64 v)) b k v sq key A n c) ∧ (∀ v, OpAt (w.setCell ⟨b, 2, none⟩ (.int .i64 v)) b k cl v key A n c) ∧
    (∀ s, OpAt (w.setCell ⟨b, 3, none⟩ (.string s)) b k cl sq s A n c) ∧ (∀ B m d, OpAt (w.setCell ⟨b, 4, none⟩ (.slice B m d)) b k cl sq key B m d) :=
  ⟨fun v => heap_setCell_same w b 0 _ _ (.int .i64 v) h, fun v => heap_setCell_same w b 1 _ _ (.int .i64 v) h, fun v => heap_setCell_same w b 2 _ _ (.int .i64 v) h, fun s => heap_setCell_same w b 3 _ _ (.string s) h, fun B m d => heap_setCell_same w b 4 _ _ (.slice B m d) h⟩
theorem conv_str {w : World} {A : Option Addr} {n c : Nat} {zs : List Int} (hz : zs.length = n) (hr : Rd w A (iv .u8 zs)) : (convert 22 9 (.slice A n c)).run Try.prog w = .ok (.string (strOfNums zs)) w := by
  by_cases hn : 0 < n
  · obtain ⟨a, rfl, d0⟩ := hr.int 0 (by omega)
    obtain ⟨b, o, s⟩ := a
    obtain rfl : s = none := by simpa [Addr.add] using World.cell?_spot d0
    refine run_convert_bytes_arg w 22 5 Try.underlying22 Try.underlying5 b o n c zs hz ?_ 9 Try.underlying9
    intro i hi
    obtain ⟨_, e, d⟩ := hr.int i (by omega)
    cases e
    rw [Go.WideShapes.add_plain] at d
    rw [d]
    simp [List.getD, show i < zs.length by omega]
  · obtain rfl : n = 0 := by omega
    obtain rfl : zs = [] := List.eq_nil_of_length_eq_zero hz
    rw [run_convert_bytes_string w 22 9 5 _ 0 c Try.underlying22 Try.underlying5 Try.underlying9]
    cases A <;> rfl
theorem kb_str {zs : List Int} (h : Wf zs) : kb (strOfNums zs) = zs := by
  rw [kb, strOfNums_data, List.map_map]
  conv => rhs; rw [← List.map_id zs]
  refine List.map_congr_left fun x hx => ?_
  have := h x hx
  simp only [Function.comp, UInt8.toNat_ofNat', id]
  omega
theorem str_size (zs : List Int) : (strOfNums zs).size = zs.length := strOfNums_size zs

/-- what bytes are as an op -/
def dOpR (xs : List Int) : Int × Int × Int × ByteArray × List Int × Int :=
  match stNum (some xs) with
  | (n0, s1) => match stNum s1 with
    | (n1, s2) => match stNum s2 with
      | (n2, s3) => match stBytes s3 with
        | (p, s4) => match stBytes s4 with
          | (t, s5) => if s5 = some [] ∧ opErr n0 n1 n2 p.length t.length = 0 ∧ opBytes n0 n1 n2 (strOfNums p) t = xs then (n0, n1, n2, strOfNums p, t, 0) else (0, 0, 0, ⟨#[]⟩, [], 3)
theorem dOpR_eq {xs : List Int} {n0 n1 n2 : Nat} {s1 s2 s3 s4 s5 : Option (List Int)} {p t : List Int} (h0 : stNum (some xs) = (n0, s1)) (h1 : stNum s1 = (n1, s2)) (h2 : stNum s2 = (n2, s3)) (h3 : stBytes s3 = (p, s4)) (h4 : stBytes s4 = (t, s5)) :
    dOpR xs = if s5 = some [] ∧ opErr n0 n1 n2 p.length t.length = 0 ∧ opBytes n0 n1 n2 (strOfNums p) t = xs then ((n0 : Int), (n1 : Int), (n2 : Int), strOfNums p, t, 0) else (0, 0, 0, ⟨#[]⟩, [], 3) := by
  simp only [dOpR, h0, h1, h2, h3, h4]

theorem isInt_op {w : World} {b : Nat} {k cl sq : Int} {key : ByteArray} {A : Option Addr} {n c : Nat} (h : OpAt w b k cl sq key A n c) : reader.IsInt w ⟨b, 0, none⟩ ∧ reader.IsInt w ⟨b, 1, none⟩ ∧ reader.IsInt w ⟨b, 2, none⟩ :=
  ⟨⟨⟨_, h.cells.1⟩, h.free 0⟩, ⟨⟨_, h.cells.2.1⟩, h.free 1⟩, ⟨⟨_, h.cells.2.2.1⟩, h.free 2⟩⟩
/-- Nums into an op's first three fields -/
theorem dec_nums {w : World} {b o : Nat} {g : Option Nat} {s s1 s2 s3 : Option (List Int)} {n0 n1 n2 : Nat} {k cl sq : Int} {key : ByteArray} {A : Option Addr} {n c : Nat} (hR : reader.Rdr w b g s) (hO : OpAt w o k cl sq key A n c) (hob : o ≠ b) (hog : g ≠ some o) (hb : (left s).length ≤ 70368744177664)
    (h0 : stNum s = (n0, s1)) (h1 : stNum s1 = (n1, s2)) (h2 : stNum s2 = (n2, s3)) :
    Calls Try.prog 63 #[.pointer (some ⟨b, 0, none⟩), .slice (some ⟨w.heap.size, 0, none⟩) 3 3] (w.alloc (.cells #[.pointer (some ⟨o, 0, none⟩), .pointer (some ⟨o, 1, none⟩), .pointer (some ⟨o, 2, none⟩)] 93))
      fun e w' => e = .returned (.tuple #[]) ∧ (∃ g', reader.Rdr w' b g' s3 ∧ (g' = g ∨ g' = none)) ∧ OpAt w' o n0 n1 n2 key A n c ∧ Kp [b, o] w w' := by
  obtain ⟨W, hW⟩ : ∃ W, W = w.alloc (.cells #[.pointer (some ⟨o, 0, none⟩), .pointer (some ⟨o, 1, none⟩), .pointer (some ⟨o, 2, none⟩)] 93) := ⟨_, rfl⟩
  have kW : Kp [] w W := by rw [hW]; exact (Kp.refl [] w).alloc _
  have hOW : OpAt W o k cl sq key A n c := hO.kp kW (by simp)
  have hlo : o < w.heap.size := lt_of_block hO
  have hlb := hR.lt
  have hr : Rd W (some ⟨w.heap.size, 0, none⟩) ([some ⟨o, 0, none⟩, some ⟨o, 1, none⟩, some ⟨o, 2, none⟩].map Value.pointer) := by rw [hW]; exact rd_new w _ _
  rw [← hW]
  obtain ⟨i0, i1, i2⟩ := isInt_op hOW
  refine (reader.nums_any b g s (some ⟨w.heap.size, 0, none⟩) 3 3 [some ⟨o, 0, none⟩, some ⟨o, 1, none⟩, some ⟨o, 2, none⟩] W (hR.kp kW (by simp) (by simp)) hb rfl (by decide) hr ?_ ?_).mono ?_
  · intro a ha
    cases ha
    refine ⟨by show w.heap.size ≠ b; omega, fun p hp q hq => ?_⟩
    simp only [List.mem_cons, List.not_mem_nil, or_false] at hp
    rcases hp with rfl | rfl | rfl <;> cases hq <;> (show o ≠ w.heap.size; omega)
  · intro p hp q hq
    simp only [List.mem_cons, List.not_mem_nil, or_false] at hp
    rcases hp with rfl | rfl | rfl <;> cases hq
    · exact ⟨hob, hog, i0⟩
    · exact ⟨hob, hog, i1⟩
    · exact ⟨hob, hog, i2⟩
  · rintro e w' ⟨rfl, ⟨g', hR', hg'⟩, hos, htp, hout, hsz, hbl⟩
    have e1 : (stNums 3 s).1 = [(n0 : Int), (n1 : Int), (n2 : Int)] := by simp only [stNums, h0, h1, h2]
    have e2 : (stNums 3 s).2 = s3 := by simp only [stNums, h0, h1, h2]
    have hlen : [some (⟨o, 0, none⟩ : Addr), some ⟨o, 1, none⟩, some ⟨o, 2, none⟩].length = 3 := rfl
    rw [hlen] at hR' hbl
    rw [e1] at hbl
    rw [e2] at hR'
    have hsW := kW.size
    have hO' : OpAt w' o n0 n1 n2 key A n c := by
      have h9 := hbl o (by omega) hob
      have h8 := (((hOW.set.1 (n0 : Int)).set.2.1 (n1 : Int)).set.2.2.1 (n2 : Int))
      exact h9.trans h8
    refine ⟨rfl, ⟨g', hR', hg'⟩, hO', ⟨hos.trans kW.os, htp.trans kW.tape, hout.trans kW.output, by omega, fun i hi hn => ?_⟩⟩
    simp only [List.mem_cons, List.not_mem_nil, or_false, not_or] at hn
    rw [hbl i (by omega) hn.1, reader.putAll_far]
    · exact kW.block i hi (by simp)
    · intro x hx a ha
      simp only [List.zip_cons_cons, List.zip_nil_right, List.mem_cons, List.not_mem_nil, or_false] at hx
      rcases hx with rfl | rfl | rfl <;> cases ha <;> exact fun h => hn.2 h.symm

/-- behind Decode -/
def ODec (xs : List Int) (w : World) (e : Ending) (w' : World) : Prop :=
  ∃ (k c q : Int) (key : ByteArray) (text : List Int) (er : Int) (A : Option Addr) (n cp : Nat), dOpR xs = (k, c, q, key, text, er) ∧ e = .returned (.tuple #[.agg #[.int .i64 k, .int .i64 c, .int .i64 q, .string key, .slice A n cp], .int .i64 er]) ∧
    text.length = n ∧ Rd w' A (iv .u8 text) ∧ n ≤ cp ∧ (A = none → cp = 0) ∧ Kp [] w w'
theorem own_cases {w : World} {lo : Nat} {v : Value} {p : List Int} {n : Nat} (o : Own 5 .u8 w lo v p) (hn : p.length = n) : ∃ A c, v = .slice A n c ∧ n ≤ c ∧ Rd w A (iv .u8 p) ∧ (A = none → c = 0) := by
  obtain ⟨A, c, rfl, h1, _, h3, h4⟩ := own_rd o.1
  rw [hn] at h1 ⊢
  exact ⟨A, c, rfl, h1, h3, h4⟩

theorem stBytes_left {s : Option (List Int)} {m : Nat} (h : (left s).length ≤ m) : (left (stBytes s).2).length ≤ m := by
  unfold stBytes
  have h1 := reader.left_le h
  obtain ⟨a, s1⟩ : ∃ a, (stNum s).2 = a := ⟨_, rfl⟩
  rw [s1] at h1 ⊢
  cases a with
  | none => simp [stRaw, left]
  | some l =>
    simp only [stRaw]
    split
    · simp [left]
    · simp only [left, Option.getD_some, List.length_drop] at h1 ⊢
      omega

/-- behind the first row: the key is stored -/
theorem B5_of {w w3 w4 : World} {b : Nat} {g4 : Option Nat} {k c q : Int} {p t : List Int} {s3 s4 s5 : Option (List Int)} (hb : w.heap.size + 2 ≤ b) (hk3 : Kp [] w w3) (hq3 : OpAt w3 w.heap.size 0 0 0 ⟨#[]⟩ none 0 0) (o4 : OpAt w4 (w.heap.size + 1) k c q ⟨#[]⟩ none 0 0)
    (R4 : reader.Rdr w4 b g4 s4) (hg4 : ∀ x, g4 = some x → w.heap.size + 2 ≤ x) (K4 : Kp [b] w3 w4) (hl3 : (left s3).length ≤ 70368744177664) (h3 : stBytes s3 = (p, s4)) (h4 : stBytes s4 = (t, s5)) :
    Kp [] w (w4.setCell ⟨w.heap.size + 1, 3, none⟩ (.string (strOfNums p))) ∧ OpAt (w4.setCell ⟨w.heap.size + 1, 3, none⟩ (.string (strOfNums p))) w.heap.size 0 0 0 ⟨#[]⟩ none 0 0 ∧
    OpAt (w4.setCell ⟨w.heap.size + 1, 3, none⟩ (.string (strOfNums p))) (w.heap.size + 1) k c q (strOfNums p) none 0 0 ∧
    Calls Try.prog 70 #[.pointer (some ⟨b, 0, none⟩)] (w4.setCell ⟨w.heap.size + 1, 3, none⟩ (.string (strOfNums p))) (reader.RawPost b g4 (t, s5) (w4.setCell ⟨w.heap.size + 1, 3, none⟩ (.string (strOfNums p)))) := by
  have ks : Kp [w.heap.size + 1] w4 (w4.setCell ⟨w.heap.size + 1, 3, none⟩ (.string (strOfNums p))) := (Kp.refl _ _).setCell (.inl (by simp)) _
  have hs3 := hk3.size
  refine ⟨(hk3.trans K4 (by intro x hx; simp at hx; omega)).trans ks (by intro x hx; simp at hx; omega), (hq3.kp K4 (by simp; omega)).kp ks (by simp), o4.set.2.2.2.1 _, ?_⟩
  have hR5 := R4.kp ks (by simp; omega) (fun x hx => by have := hg4 x hx; simp; omega)
  have hl4 : (left s4).length ≤ 70368744177664 := by
    have q1 := stBytes_left (s := s3) hl3
    rwa [h3] at q1
  have h := reader.bytes_any b g4 s4 _ hR5 hl4
  rwa [h4] at h
theorem B6_of {w w5 w6 : World} {b : Nat} {g6 : Option Nat} {k c q : Int} {key : ByteArray} {t : List Int} {nt c6 : Nat} {A6 : Option Addr} {s5 : Option (List Int)} (hb : w.heap.size + 2 ≤ b) (hk5 : Kp [] w w5) (hq5 : OpAt w5 w.heap.size 0 0 0 ⟨#[]⟩ none 0 0) (o5 : OpAt w5 (w.heap.size + 1) k c q key none 0 0)
    (hg6 : ∀ x, g6 = some x → w.heap.size + 2 ≤ x) (O6 : Own 5 .u8 w6 w5.heap.size (.slice A6 nt c6) t) (R6 : reader.Rdr w6 b g6 s5) (K6 : Kp [b] w5 w6) (hnt : t.length = nt) :
    OpAt w6 (w.heap.size + 1) k c q key none 0 0 ∧ Kp [] w (w6.setCell ⟨w.heap.size + 1, 4, none⟩ (.slice A6 nt c6)) ∧ OpAt (w6.setCell ⟨w.heap.size + 1, 4, none⟩ (.slice A6 nt c6)) w.heap.size 0 0 0 ⟨#[]⟩ none 0 0 ∧
    (Calls Try.prog 67 #[.pointer (some ⟨b, 0, none⟩)] (w6.setCell ⟨w.heap.size + 1, 4, none⟩ (.slice A6 nt c6)) fun e w' => e = .returned (.bool (reader.whole s5)) ∧ w' = w6.setCell ⟨w.heap.size + 1, 4, none⟩ (.slice A6 nt c6)) ∧
    OpAt (w6.setCell ⟨w.heap.size + 1, 4, none⟩ (.slice A6 nt c6)) (w.heap.size + 1) k c q key A6 nt c6 ∧ Rd (w6.setCell ⟨w.heap.size + 1, 4, none⟩ (.slice A6 nt c6)) A6 (iv .u8 t) ∧ nt ≤ c6 ∧ (A6 = none → c6 = 0) ∧ (∀ a, A6 = some a → w.heap.size + 2 ≤ a.block) := by
  have ks : Kp [w.heap.size + 1] w6 (w6.setCell ⟨w.heap.size + 1, 4, none⟩ (.slice A6 nt c6)) := (Kp.refl _ _).setCell (.inl (by simp)) _
  have hs5 := hk5.size
  have hlt5 := lt_of_block o5
  have o6 := o5.kp K6 (by simp; omega)
  obtain ⟨A', c', e, h1, _, h3, h4⟩ := own_rd O6.1
  cases e
  rw [hnt] at h1
  refine ⟨o6, (hk5.trans K6 (by intro x hx; simp at hx; omega)).trans ks (by intro x hx; simp at hx; omega), (hq5.kp K6 (by simp; omega)).kp ks (by simp), reader.whole_any b g6 s5 _ (R6.kp ks (by simp; omega) (fun x hx => by have := hg6 x hx; simp; omega)), o6.set.2.2.2.2 _ _ _, ?_, h1, h4, fun a ha => by have h9 := O6.2 a.block (by rw [ha]; rfl); omega⟩
  refine ks.rd h3 ?_
  intro a ha hm
  have h9 := O6.2 a.block (by rw [ha]; rfl)
  simp at hm
  omega
theorem stBytes_len {s : Option (List Int)} {m : Nat} (h : (left s).length ≤ m) : (stBytes s).1.length ≤ m := by
  unfold stBytes
  have h1 := reader.left_le h
  obtain ⟨a, s1⟩ : ∃ a, (stNum s).2 = a := ⟨_, rfl⟩
  rw [s1] at h1 ⊢
  cases a with
  | none => simp [stRaw]
  | some l =>
    simp only [stRaw]
    split
    · simp
    · simp only [left, Option.getD_some] at h1
      simp only [List.length_take]
      omega
theorem stNum_wf {s : Option (List Int)} (h : Wf (left s)) : Wf (left (stNum s).2) := by
  cases s with
  | none => exact Wf.nil
  | some l =>
    cases hd : dec l with
    | none => simp only [stNum, hd]; exact Wf.nil
    | some x =>
      obtain ⟨v, r⟩ := x
      obtain ⟨q, e, _⟩ := dec_suffix hd
      simp only [stNum, hd, left, Option.getD_some] at h ⊢
      intro y hy
      exact h y (by rw [e]; simp [hy])
theorem stBytes_wf {s : Option (List Int)} (h : Wf (left s)) : Wf (stBytes s).1 ∧ Wf (left (stBytes s).2) := by
  unfold stBytes
  have h1 := stNum_wf h
  obtain ⟨a, s1⟩ : ∃ a, (stNum s).2 = a := ⟨_, rfl⟩
  rw [s1] at h1 ⊢
  cases a with
  | none => exact ⟨Wf.nil, Wf.nil⟩
  | some l =>
    simp only [stRaw]
    split
    · exact ⟨Wf.nil, Wf.nil⟩
    · exact ⟨Wf.take h1 _, Wf.drop h1 _⟩
theorem ob_wf {k c q : Int} {key : ByteArray} {t : List Int} (ht : Wf t) : Wf (opBytes k c q key t) := by
  rw [opBytes_eq]
  exact wf_app (num_u8 _) (wf_app (num_u8 _) (wf_app (num_u8 _) (wf_app (row_u8 _ (kb_wf _)) (wf_app (row_u8 _ ht) Wf.nil))))
theorem res_op {fn : Func} {tmps : Array Value} {w : World} {R : Nat} {k c q : Int} {key : ByteArray} {A : Option Addr} {n cp : Nat} (hf : fn.results = #[.cell 2 47, .tmp 3]) (h2 : tmps.getD 2 undef = .pointer (some ⟨R, 0, none⟩)) (h : OpAt w R k c q key A n cp) :
    (results fn tmps).run Try.prog w = .ok (.tuple #[.agg #[.int .i64 k, .int .i64 c, .int .i64 q, .string key, .slice A n cp], tmps.getD 3 undef]) w := by
  have hl := run_loadVar_row (P := Try.prog) w R 47 47 _ (0, 0) _ h Try.underlying47 rfl (by kernel_rfl)
  rw [results_cell_tmp hf, h2]
  simp [asAddr, hl, Result.andThen]
theorem zero_op {w w7 : World} (hk : Kp [] w w7) (h : OpAt w7 w.heap.size 0 0 0 ⟨#[]⟩ none 0 0) (k c q : Int) (key : ByteArray) (A : Option Addr) (n cp : Nat) :
    OpAt (((((w7.setCell ⟨w.heap.size, 0, none⟩ (.int .i64 k)).setCell ⟨w.heap.size, 1, none⟩ (.int .i64 c)).setCell ⟨w.heap.size, 2, none⟩ (.int .i64 q)).setCell ⟨w.heap.size, 3, none⟩ (.string key)).setCell ⟨w.heap.size, 4, none⟩ (.slice A n cp)) w.heap.size k c q key A n cp ∧
    Kp [] w (((((w7.setCell ⟨w.heap.size, 0, none⟩ (.int .i64 k)).setCell ⟨w.heap.size, 1, none⟩ (.int .i64 c)).setCell ⟨w.heap.size, 2, none⟩ (.int .i64 q)).setCell ⟨w.heap.size, 3, none⟩ (.string key)).setCell ⟨w.heap.size, 4, none⟩ (.slice A n cp)) ∧
    Kp [w.heap.size] w7 (((((w7.setCell ⟨w.heap.size, 0, none⟩ (.int .i64 k)).setCell ⟨w.heap.size, 1, none⟩ (.int .i64 c)).setCell ⟨w.heap.size, 2, none⟩ (.int .i64 q)).setCell ⟨w.heap.size, 3, none⟩ (.string key)).setCell ⟨w.heap.size, 4, none⟩ (.slice A n cp)) := by
  have e := ((((h.set.1 k).set.2.1 c).set.2.2.1 q).set.2.2.2.1 key).set.2.2.2.2 A n cp
  have kk : Kp [w.heap.size] w7 (((((w7.setCell ⟨w.heap.size, 0, none⟩ (.int .i64 k)).setCell ⟨w.heap.size, 1, none⟩ (.int .i64 c)).setCell ⟨w.heap.size, 2, none⟩ (.int .i64 q)).setCell ⟨w.heap.size, 3, none⟩ (.string key)).setCell ⟨w.heap.size, 4, none⟩ (.slice A n cp)) :=
    (((((Kp.refl _ w7).setCell (.inl (by simp)) _).setCell (.inl (by simp)) _).setCell (.inl (by simp)) _).setCell (.inl (by simp)) _).setCell (.inl (by simp)) _
  exact ⟨e, hk.trans kk (by simp), kk⟩
theorem odec_none {xs : List Int} {w w' : World} (h : dOpR xs = (0, 0, 0, ⟨#[]⟩, [], 3)) (k : Kp [] w w') : ODec xs w (.returned (.tuple #[.agg #[.int .i64 0, .int .i64 0, .int .i64 0, .string ⟨#[]⟩, .slice none 0 0], .int .i64 3])) w' :=
  ⟨0, 0, 0, ⟨#[]⟩, [], 3, none, 0, 0, h, rfl, rfl, Rd.nil _ _, Nat.le_refl _, fun _ => rfl, k⟩

set_option maxHeartbeats 8000000 in
set_option maxRecDepth 100000 in
-- PART D
theorem decode_any (A : Option Addr) (n c : Nat) (xs : List Int) (w : World) (hn : xs.length = n) (hr : Rd w A (iv .u8 xs)) (hnil : A = none → c = 0) (hw : Wf xs) (hm : n ≤ 1000000) :
    Calls Try.prog 43 #[.slice A n c] w (ODec xs w) := by
  have HNEW : As (∀ wX, Kp [] w wX → Calls Try.prog 62 #[.slice A n c] wX (reader.NewRdr xs wX)) := ⟨fun wX k => reader.new_any A n c xs wX hn (k.rd_new hr (by simp)) hnil (by omega) hw⟩
  obtain ⟨n0, s1, h0⟩ : ∃ a b, stNum (some xs) = (a, b) := ⟨_, _, rfl⟩
  obtain ⟨n1, s2, h1⟩ : ∃ a b, stNum s1 = (a, b) := ⟨_, _, rfl⟩
  obtain ⟨n2, s3, h2⟩ : ∃ a b, stNum s2 = (a, b) := ⟨_, _, rfl⟩
  obtain ⟨p, s4, h3⟩ : ∃ a b, stBytes s3 = (a, b) := ⟨_, _, rfl⟩
  obtain ⟨t, s5, h4⟩ : ∃ a b, stBytes s4 = (a, b) := ⟨_, _, rfl⟩
  obtain ⟨np, hnp⟩ : ∃ np, p.length = np := ⟨_, rfl⟩
  obtain ⟨nt, hnt⟩ : ∃ nt, t.length = nt := ⟨_, rfl⟩
  have H0 := As.mk h0
  have H1 := As.mk h1
  have H2 := As.mk h2
  have H3 := As.mk h3
  have H4 := As.mk h4
  have HNP := As.mk hnp
  have HNT := As.mk hnt
  have HE := As.mk (dOpR_eq h0 h1 h2 h3 h4)
  have HL0 : As ((left (some xs)).length ≤ 70368744177664) := ⟨by simp [left]; omega⟩
  have HL3 : As ((left s3).length ≤ 70368744177664) := ⟨by
    have q1 := reader.left_le HL0.out
    rw [h0] at q1
    have q2 := reader.left_le q1
    rw [h1] at q2
    have q3 := reader.left_le q2
    rwa [h2] at q3⟩
  have hwx : Wf (left (some xs)) := hw
  have hw3 : Wf (left s3) := by
    have q1 := stNum_wf hwx
    rw [H0.out] at q1
    have q2 := stNum_wf q1
    rw [H1.out] at q2
    have q3 := stNum_wf q2
    rwa [H2.out] at q3
  have hwt : Wf t := by
    have q1 := (stBytes_wf hw3).2
    rw [H3.out] at q1
    have q2 := (stBytes_wf q1).1
    rwa [H4.out] at q2
  have HXS := As.mk hw
  have HTB : As (nt ≤ 4611686018427387904) := ⟨by
    have q1 := stBytes_left HL3.out
    rw [H3.out] at q1
    have q2 := stBytes_len q1
    rw [H4.out] at q2
    have := HNT.out
    simp only at q2
    omega⟩
  have HX := As.mk hr
  have HXL := As.mk hn
  have HWT := As.mk hwt
  clear h0 h1 h2 h3 h4 hnp hnt hr hw hnil hn hwx hw3 hwt
  cases hbw : reader.whole s5 with
  | false =>
    have HZ : As (dOpR xs = (0, 0, 0, ⟨#[]⟩, [], 3)) := ⟨by rw [HE.out, if_neg]; rintro ⟨h9, _⟩; rw [h9] at hbw; simp [reader.whole] at hbw⟩
    go_enter Try.func43, Try.ntmps43
    go_wp2_with (first
      | (go_at_call 62; refine (HNEW.out _ (((Kp.refl [] w).alloc _).alloc _)).mono ?_; rintro e w2 ⟨b, g, rfl, R2, hb2, hg2, K2⟩; have o2 : OpAt w2 (w.heap.size + 1) 0 0 0 ⟨#[]⟩ none 0 0 := (K2.blk (heap_alloc2_new w _ _) (by simp)); have r2 : OpAt w2 w.heap.size 0 0 0 ⟨#[]⟩ none 0 0 := (K2.blk (heap_alloc2_old w _ _) (by simp)); have HK2 : As (Kp [] w w2) := ⟨(((Kp.refl [] w).alloc _).alloc _).trans K2 (by simp)⟩; have hbs : w.heap.size + 2 ≤ b := (by simp at hb2; omega); have hgs : ∀ x, g = some x → w.heap.size + 2 ≤ x := (fun x hx => by have h9 := (hg2 x hx).1; simp at h9; omega); have HBS := As.mk hbs; have HGS := As.mk hgs; have HQ2 := As.mk r2; have HNU := As.mk (dec_nums R2 o2 (by omega) (by intro h; have := hgs _ h; omega) HL0.out H0.out H1.out H2.out); clear R2 hb2 hg2 K2 o2 r2 hbs hgs HNEW)
      | (go_at_call 63; refine HNU.out.mono ?_; rintro e w3 ⟨rfl, ⟨g3, R3, G3⟩, o3, k3⟩; have HK3 : As (Kp [] w w3) := ⟨HK2.out.trans k3 (by intro x hx; simp at hx; have := HBS.out; omega)⟩; have HQ3 := As.mk (HQ2.out.kp k3 (by have := HBS.out; simp; omega)); have HG3 : As (∀ x, g3 = some x → w.heap.size + 2 ≤ x) := ⟨fun x hx => by rcases G3 with h | h; exact HGS.out x (by rw [← h]; exact hx); rw [h] at hx; cases hx⟩; have HO3 := As.mk o3; have hb4 := reader.bytes_any b g3 s3 w3 R3 HL3.out; rw [H3.out] at hb4; have HB4 := As.mk hb4; clear R3 G3 o3 k3 hb4 HNU HQ2)
      | (go_at_call 70; refine HB6.out.mono ?_; rintro e w6 ⟨v6, rfl, O6, g6, R6, G6, K6⟩; obtain ⟨A6, c6, rfl, hc6, r6, n6⟩ := own_cases O6 HNT.out; have HB7 := As.mk (B6_of HBS.out HK5.out HQ5.out HO5.out (fun x hx => by rcases G6 with h | h; exact HG4.out x (by rw [← h]; exact hx); rw [h] at hx; cases hx) O6 R6 K6 HNT.out); obtain ⟨-, -, -, -, d64⟩ := HB7.out.1.cells; have f64 := HB7.out.1.free 4; have HWH := As.mk HB7.out.2.2.2.1; clear O6 R6 G6 K6 r6 n6 HB6)
      | (go_at_call 67; refine HWH.out.mono ?_; rintro e w7 ⟨rfl, hw7⟩; have h7 := HB7.out; rw [← hw7] at h7; obtain ⟨-, k7, q7, -, o7, r7, g7, n7, l7⟩ := h7; have HLO7 := As.mk l7; have HK7 := As.mk k7; have HQ7 := As.mk q7; have HO7 := As.mk o7; have HR7 := As.mk r7; have HN7 := As.mk n7; obtain ⟨e0, e1, e2, e3, e4⟩ := q7.cells; have f0 := q7.free 0; have f1 := q7.free 1; have f2 := q7.free 2; have f3 := q7.free 3; have f4 := q7.free 4; obtain ⟨d0, d1, d2, d3, d4⟩ := o7.cells; rw [hbw]; clear hw7 k7 q7 o7 r7 l7 HWH HB7)
      | (go_at_call 70; refine HB4.out.mono ?_; rintro e w4 ⟨v4, rfl, O4, g4, R4, G4, K4⟩; obtain ⟨A4, c4, rfl, hc4, r4, n4⟩ := own_cases O4 HNP.out; have hcv4 := conv_str (c := c4) HNP.out r4; have o4 := HO3.out.kp K4 (by have := HBS.out; simp; omega); obtain ⟨-, -, -, d43, -⟩ := o4.cells; have f43 := o4.free 3; have HG4 : As (∀ x, g4 = some x → w.heap.size + 2 ≤ x) := ⟨fun x hx => by rcases G4 with h | h; exact HG3.out x (by rw [← h]; exact hx); rw [h] at hx; cases hx⟩; have HB5 := As.mk (B5_of HBS.out HK3.out HQ3.out o4 R4 HG4.out K4 HL3.out H3.out H4.out); have HK5 := As.mk HB5.out.1; have HQ5 := As.mk HB5.out.2.1; have HO5 := As.mk HB5.out.2.2.1; have HB6 := As.mk HB5.out.2.2.2; clear O4 R4 G4 K4 r4 n4 o4 HB4 HB5))
    have hz := zero_op HK7.out HQ7.out 0 0 0 ⟨#[]⟩ none 0 0
    (try simp only [Exit.inBlock, Exit.then])
    refine bodyPost_ret (res_op rfl rfl hz.1) rfl ?_
    exact odec_none HZ.out hz.2.1
  | true =>
    have hs5 : s5 = some [] := by simpa [reader.whole] using hbw
    obtain ⟨z, hz⟩ : ∃ z, z = opErr n0 n1 n2 np nt := ⟨_, rfl⟩
    by_cases hz0 : z = 0
    · obtain ⟨X, hX⟩ : ∃ X, X = opBytes n0 n1 n2 (strOfNums p) t := ⟨_, rfl⟩
      obtain ⟨N, hN⟩ : ∃ N, X.length = N := ⟨_, rfl⟩
      have HOZ : As (opErr n0 n1 n2 (strOfNums p).size t.length = 0) := ⟨by rw [str_size, HNP.out, HNT.out, ← hz, hz0]⟩
      have HWX : As (Wf X) := ⟨by rw [hX]; exact ob_wf HWT.out⟩
      have HXV := As.mk hX
      have HNV := As.mk hN
      by_cases hxx : X = xs
      · have hdx : decide (X = xs) = true := decide_eq_true hxx
        have HZ : As (dOpR xs = ((n0 : Int), (n1 : Int), (n2 : Int), strOfNums p, t, 0)) := ⟨by rw [HE.out, if_pos ⟨hs5, by rw [HNP.out, HNT.out, ← hz, hz0], by rw [← hX]; exact hxx⟩]⟩
        clear hX hN hxx hz hs5 hz0
        go_enter Try.func43, Try.ntmps43
        go_wp2_with (first
          | (go_at_call 62; refine (HNEW.out _ (((Kp.refl [] w).alloc _).alloc _)).mono ?_; rintro e w2 ⟨b, g, rfl, R2, hb2, hg2, K2⟩; have o2 : OpAt w2 (w.heap.size + 1) 0 0 0 ⟨#[]⟩ none 0 0 := (K2.blk (heap_alloc2_new w _ _) (by simp)); have r2 : OpAt w2 w.heap.size 0 0 0 ⟨#[]⟩ none 0 0 := (K2.blk (heap_alloc2_old w _ _) (by simp)); have HK2 : As (Kp [] w w2) := ⟨(((Kp.refl [] w).alloc _).alloc _).trans K2 (by simp)⟩; have hbs : w.heap.size + 2 ≤ b := (by simp at hb2; omega); have hgs : ∀ x, g = some x → w.heap.size + 2 ≤ x := (fun x hx => by have h9 := (hg2 x hx).1; simp at h9; omega); have HBS := As.mk hbs; have HGS := As.mk hgs; have HQ2 := As.mk r2; have HNU := As.mk (dec_nums R2 o2 (by omega) (by intro h; have := hgs _ h; omega) HL0.out H0.out H1.out H2.out); clear R2 hb2 hg2 K2 o2 r2 hbs hgs HNEW)
          | (go_at_call 63; refine HNU.out.mono ?_; rintro e w3 ⟨rfl, ⟨g3, R3, G3⟩, o3, k3⟩; have HK3 : As (Kp [] w w3) := ⟨HK2.out.trans k3 (by intro x hx; simp at hx; have := HBS.out; omega)⟩; have HQ3 := As.mk (HQ2.out.kp k3 (by have := HBS.out; simp; omega)); have HG3 : As (∀ x, g3 = some x → w.heap.size + 2 ≤ x) := ⟨fun x hx => by rcases G3 with h | h; exact HGS.out x (by rw [← h]; exact hx); rw [h] at hx; cases hx⟩; have HO3 := As.mk o3; have hb4 := reader.bytes_any b g3 s3 w3 R3 HL3.out; rw [H3.out] at hb4; have HB4 := As.mk hb4; clear R3 G3 o3 k3 hb4 HNU HQ2)
          | (go_at_call 70; refine HB6.out.mono ?_; rintro e w6 ⟨v6, rfl, O6, g6, R6, G6, K6⟩; obtain ⟨A6, c6, rfl, hc6, r6, n6⟩ := own_cases O6 HNT.out; have HB7 := As.mk (B6_of HBS.out HK5.out HQ5.out HO5.out (fun x hx => by rcases G6 with h | h; exact HG4.out x (by rw [← h]; exact hx); rw [h] at hx; cases hx) O6 R6 K6 HNT.out); obtain ⟨-, -, -, -, d64⟩ := HB7.out.1.cells; have f64 := HB7.out.1.free 4; have HWH := As.mk HB7.out.2.2.2.1; clear O6 R6 G6 K6 r6 n6 HB6)
          | (go_at_call 67; refine HWH.out.mono ?_; rintro e w7 ⟨rfl, hw7⟩; have h7 := HB7.out; rw [← hw7] at h7; obtain ⟨-, k7, q7, -, o7, r7, g7, n7, l7⟩ := h7; have HLO7 := As.mk l7; have HK7 := As.mk k7; have HQ7 := As.mk q7; have HO7 := As.mk o7; have HR7 := As.mk r7; have HN7 := As.mk n7; obtain ⟨e0, e1, e2, e3, e4⟩ := q7.cells; have f0 := q7.free 0; have f1 := q7.free 1; have f2 := q7.free 2; have f3 := q7.free 3; have f4 := q7.free 4; obtain ⟨d0, d1, d2, d3, d4⟩ := o7.cells; rw [hbw]; clear hw7 k7 q7 o7 r7 l7 HWH HB7)
          | (go_at_call 70; refine HB4.out.mono ?_; rintro e w4 ⟨v4, rfl, O4, g4, R4, G4, K4⟩; obtain ⟨A4, c4, rfl, hc4, r4, n4⟩ := own_cases O4 HNP.out; have hcv4 := conv_str (c := c4) HNP.out r4; have o4 := HO3.out.kp K4 (by have := HBS.out; simp; omega); obtain ⟨-, -, -, d43, -⟩ := o4.cells; have f43 := o4.free 3; have HG4 : As (∀ x, g4 = some x → w.heap.size + 2 ≤ x) := ⟨fun x hx => by rcases G4 with h | h; exact HG3.out x (by rw [← h]; exact hx); rw [h] at hx; cases hx⟩; have HB5 := As.mk (B5_of HBS.out HK3.out HQ3.out o4 R4 HG4.out K4 HL3.out H3.out H4.out); have HK5 := As.mk HB5.out.1; have HQ5 := As.mk HB5.out.2.1; have HO5 := As.mk HB5.out.2.2.1; have HB6 := As.mk HB5.out.2.2.2; clear O4 R4 G4 K4 r4 n4 o4 HB4 HB5)
          | (go_at_call 27; refine (encode_good _ _ _ _ A6 nt c6 t w7 HNT.out HR7.out hc6 HN7.out HOZ.out X HXV.out N HNV.out).mono ?_; rintro e w8 ⟨A8, c8, rfl, r8, k8, _, _, _⟩; have HK8 : As (Kp [] w w8) := ⟨HK7.out.trans k8 (by simp)⟩; have HQ8 := As.mk (HQ7.out.kp k8 (by simp)); have HO8 := As.mk (HO7.out.kp k8 (by simp)); have HR68 := As.mk (k8.rd HR7.out (fun _ _ => by simp)); have HEQ := As.mk (frame.equal_any A8 A N c8 n c X xs w8 HNV.out HXL.out r8 (HK8.out.rd_new HX.out (by simp)) HWX.out HXS.out); rw [hdx] at HEQ; clear r8 k8)
          | (go_at_call 51; refine HEQ.out.mono ?_; rintro e w9 ⟨rfl, rfl⟩; obtain ⟨d80, d81, d82, d83, d84⟩ := HO8.out.cells; obtain ⟨e80, e81, e82, e83, e84⟩ := HQ8.out.cells; have f80 := HQ8.out.free 0; have f81 := HQ8.out.free 1; have f82 := HQ8.out.free 2; have f83 := HQ8.out.free 3; have f84 := HQ8.out.free 4; clear HEQ))
        have hz := zero_op HK8.out HQ8.out n0 n1 n2 (strOfNums p) A6 nt c6
        (try simp only [Exit.inBlock, Exit.then])
        refine bodyPost_ret (res_op rfl rfl hz.1) rfl ?_
        refine ⟨_, _, _, _, _, _, A6, nt, c6, HZ.out, rfl, HNT.out, ?_, hc6, HN7.out, hz.2.1⟩
        exact hz.2.2.rd HR68.out (fun a ha hm => by have h9 := HLO7.out a ha; simp at hm; omega)
      · have hdx : decide (X = xs) = false := decide_eq_false hxx
        have HZ : As (dOpR xs = (0, 0, 0, ⟨#[]⟩, [], 3)) := ⟨by rw [HE.out, if_neg]; rintro ⟨_, _, h9⟩; exact hxx (by rw [hX]; exact h9)⟩
        clear hX hN hxx hz hs5 hz0
        go_enter Try.func43, Try.ntmps43
        go_wp2_with (first
          | (go_at_call 62; refine (HNEW.out _ (((Kp.refl [] w).alloc _).alloc _)).mono ?_; rintro e w2 ⟨b, g, rfl, R2, hb2, hg2, K2⟩; have o2 : OpAt w2 (w.heap.size + 1) 0 0 0 ⟨#[]⟩ none 0 0 := (K2.blk (heap_alloc2_new w _ _) (by simp)); have r2 : OpAt w2 w.heap.size 0 0 0 ⟨#[]⟩ none 0 0 := (K2.blk (heap_alloc2_old w _ _) (by simp)); have HK2 : As (Kp [] w w2) := ⟨(((Kp.refl [] w).alloc _).alloc _).trans K2 (by simp)⟩; have hbs : w.heap.size + 2 ≤ b := (by simp at hb2; omega); have hgs : ∀ x, g = some x → w.heap.size + 2 ≤ x := (fun x hx => by have h9 := (hg2 x hx).1; simp at h9; omega); have HBS := As.mk hbs; have HGS := As.mk hgs; have HQ2 := As.mk r2; have HNU := As.mk (dec_nums R2 o2 (by omega) (by intro h; have := hgs _ h; omega) HL0.out H0.out H1.out H2.out); clear R2 hb2 hg2 K2 o2 r2 hbs hgs HNEW)
          | (go_at_call 63; refine HNU.out.mono ?_; rintro e w3 ⟨rfl, ⟨g3, R3, G3⟩, o3, k3⟩; have HK3 : As (Kp [] w w3) := ⟨HK2.out.trans k3 (by intro x hx; simp at hx; have := HBS.out; omega)⟩; have HQ3 := As.mk (HQ2.out.kp k3 (by have := HBS.out; simp; omega)); have HG3 : As (∀ x, g3 = some x → w.heap.size + 2 ≤ x) := ⟨fun x hx => by rcases G3 with h | h; exact HGS.out x (by rw [← h]; exact hx); rw [h] at hx; cases hx⟩; have HO3 := As.mk o3; have hb4 := reader.bytes_any b g3 s3 w3 R3 HL3.out; rw [H3.out] at hb4; have HB4 := As.mk hb4; clear R3 G3 o3 k3 hb4 HNU HQ2)
          | (go_at_call 70; refine HB6.out.mono ?_; rintro e w6 ⟨v6, rfl, O6, g6, R6, G6, K6⟩; obtain ⟨A6, c6, rfl, hc6, r6, n6⟩ := own_cases O6 HNT.out; have HB7 := As.mk (B6_of HBS.out HK5.out HQ5.out HO5.out (fun x hx => by rcases G6 with h | h; exact HG4.out x (by rw [← h]; exact hx); rw [h] at hx; cases hx) O6 R6 K6 HNT.out); obtain ⟨-, -, -, -, d64⟩ := HB7.out.1.cells; have f64 := HB7.out.1.free 4; have HWH := As.mk HB7.out.2.2.2.1; clear O6 R6 G6 K6 r6 n6 HB6)
          | (go_at_call 67; refine HWH.out.mono ?_; rintro e w7 ⟨rfl, hw7⟩; have h7 := HB7.out; rw [← hw7] at h7; obtain ⟨-, k7, q7, -, o7, r7, g7, n7, l7⟩ := h7; have HLO7 := As.mk l7; have HK7 := As.mk k7; have HQ7 := As.mk q7; have HO7 := As.mk o7; have HR7 := As.mk r7; have HN7 := As.mk n7; obtain ⟨e0, e1, e2, e3, e4⟩ := q7.cells; have f0 := q7.free 0; have f1 := q7.free 1; have f2 := q7.free 2; have f3 := q7.free 3; have f4 := q7.free 4; obtain ⟨d0, d1, d2, d3, d4⟩ := o7.cells; rw [hbw]; clear hw7 k7 q7 o7 r7 l7 HWH HB7)
          | (go_at_call 70; refine HB4.out.mono ?_; rintro e w4 ⟨v4, rfl, O4, g4, R4, G4, K4⟩; obtain ⟨A4, c4, rfl, hc4, r4, n4⟩ := own_cases O4 HNP.out; have hcv4 := conv_str (c := c4) HNP.out r4; have o4 := HO3.out.kp K4 (by have := HBS.out; simp; omega); obtain ⟨-, -, -, d43, -⟩ := o4.cells; have f43 := o4.free 3; have HG4 : As (∀ x, g4 = some x → w.heap.size + 2 ≤ x) := ⟨fun x hx => by rcases G4 with h | h; exact HG3.out x (by rw [← h]; exact hx); rw [h] at hx; cases hx⟩; have HB5 := As.mk (B5_of HBS.out HK3.out HQ3.out o4 R4 HG4.out K4 HL3.out H3.out H4.out); have HK5 := As.mk HB5.out.1; have HQ5 := As.mk HB5.out.2.1; have HO5 := As.mk HB5.out.2.2.1; have HB6 := As.mk HB5.out.2.2.2; clear O4 R4 G4 K4 r4 n4 o4 HB4 HB5)
          | (go_at_call 27; refine (encode_good _ _ _ _ A6 nt c6 t w7 HNT.out HR7.out hc6 HN7.out HOZ.out X HXV.out N HNV.out).mono ?_; rintro e w8 ⟨A8, c8, rfl, r8, k8, _, _, _⟩; have HK8 : As (Kp [] w w8) := ⟨HK7.out.trans k8 (by simp)⟩; have HQ8 := As.mk (HQ7.out.kp k8 (by simp)); have HO8 := As.mk (HO7.out.kp k8 (by simp)); have HR68 := As.mk (k8.rd HR7.out (fun _ _ => by simp)); have HEQ := As.mk (frame.equal_any A8 A N c8 n c X xs w8 HNV.out HXL.out r8 (HK8.out.rd_new HX.out (by simp)) HWX.out HXS.out); rw [hdx] at HEQ; clear r8 k8)
          | (go_at_call 51; refine HEQ.out.mono ?_; rintro e w9 ⟨rfl, rfl⟩; obtain ⟨d80, d81, d82, d83, d84⟩ := HO8.out.cells; obtain ⟨e80, e81, e82, e83, e84⟩ := HQ8.out.cells; have f80 := HQ8.out.free 0; have f81 := HQ8.out.free 1; have f82 := HQ8.out.free 2; have f83 := HQ8.out.free 3; have f84 := HQ8.out.free 4; clear HEQ))
        have hz := zero_op HK8.out HQ8.out 0 0 0 ⟨#[]⟩ none 0 0
        (try simp only [Exit.inBlock, Exit.then])
        refine bodyPost_ret (res_op rfl rfl hz.1) rfl ?_
        exact odec_none HZ.out hz.2.1
    · have HZ : As (dOpR xs = (0, 0, 0, ⟨#[]⟩, [], 3)) := ⟨by rw [HE.out, if_neg]; rintro ⟨_, h9, _⟩; rw [HNP.out, HNT.out] at h9; exact hz0 (by rw [hz]; exact h9)⟩
      have HENB : As (∀ (B : Option Addr) (d : Nat) (wX : World), Rd wX B (iv .u8 t) → nt ≤ d → (B = none → d = 0) → Calls Try.prog 27 #[.agg #[.int .i64 n0, .int .i64 n1, .int .i64 n2, .string (strOfNums p), .slice B nt d]] wX fun e w' => ∃ v, e = .returned (.tuple #[v, .int .i64 z]) ∧ Kp [] wX w') := ⟨fun B d wX r9 g9 m9 => by
        refine (encode_any n0 n1 n2 (strOfNums p) B nt d t wX HNT.out r9 g9 m9 HTB.out).mono ?_
        rintro e w' ⟨v, rfl, _, K⟩
        exact ⟨v, by rw [hz, str_size, HNP.out, HNT.out], K⟩⟩
      have hzb : (z != 0) = true := by simpa using hz0
      clear hz hs5 hz0
      go_enter Try.func43, Try.ntmps43
      go_wp2_with (first
        | (go_at_call 62; refine (HNEW.out _ (((Kp.refl [] w).alloc _).alloc _)).mono ?_; rintro e w2 ⟨b, g, rfl, R2, hb2, hg2, K2⟩; have o2 : OpAt w2 (w.heap.size + 1) 0 0 0 ⟨#[]⟩ none 0 0 := (K2.blk (heap_alloc2_new w _ _) (by simp)); have r2 : OpAt w2 w.heap.size 0 0 0 ⟨#[]⟩ none 0 0 := (K2.blk (heap_alloc2_old w _ _) (by simp)); have HK2 : As (Kp [] w w2) := ⟨(((Kp.refl [] w).alloc _).alloc _).trans K2 (by simp)⟩; have hbs : w.heap.size + 2 ≤ b := (by simp at hb2; omega); have hgs : ∀ x, g = some x → w.heap.size + 2 ≤ x := (fun x hx => by have h9 := (hg2 x hx).1; simp at h9; omega); have HBS := As.mk hbs; have HGS := As.mk hgs; have HQ2 := As.mk r2; have HNU := As.mk (dec_nums R2 o2 (by omega) (by intro h; have := hgs _ h; omega) HL0.out H0.out H1.out H2.out); clear R2 hb2 hg2 K2 o2 r2 hbs hgs HNEW)
        | (go_at_call 63; refine HNU.out.mono ?_; rintro e w3 ⟨rfl, ⟨g3, R3, G3⟩, o3, k3⟩; have HK3 : As (Kp [] w w3) := ⟨HK2.out.trans k3 (by intro x hx; simp at hx; have := HBS.out; omega)⟩; have HQ3 := As.mk (HQ2.out.kp k3 (by have := HBS.out; simp; omega)); have HG3 : As (∀ x, g3 = some x → w.heap.size + 2 ≤ x) := ⟨fun x hx => by rcases G3 with h | h; exact HGS.out x (by rw [← h]; exact hx); rw [h] at hx; cases hx⟩; have HO3 := As.mk o3; have hb4 := reader.bytes_any b g3 s3 w3 R3 HL3.out; rw [H3.out] at hb4; have HB4 := As.mk hb4; clear R3 G3 o3 k3 hb4 HNU HQ2)
        | (go_at_call 70; refine HB6.out.mono ?_; rintro e w6 ⟨v6, rfl, O6, g6, R6, G6, K6⟩; obtain ⟨A6, c6, rfl, hc6, r6, n6⟩ := own_cases O6 HNT.out; have HB7 := As.mk (B6_of HBS.out HK5.out HQ5.out HO5.out (fun x hx => by rcases G6 with h | h; exact HG4.out x (by rw [← h]; exact hx); rw [h] at hx; cases hx) O6 R6 K6 HNT.out); obtain ⟨-, -, -, -, d64⟩ := HB7.out.1.cells; have f64 := HB7.out.1.free 4; have HWH := As.mk HB7.out.2.2.2.1; clear O6 R6 G6 K6 r6 n6 HB6)
        | (go_at_call 67; refine HWH.out.mono ?_; rintro e w7 ⟨rfl, hw7⟩; have h7 := HB7.out; rw [← hw7] at h7; obtain ⟨-, k7, q7, -, o7, r7, g7, n7, l7⟩ := h7; have HLO7 := As.mk l7; have HK7 := As.mk k7; have HQ7 := As.mk q7; have HO7 := As.mk o7; have HR7 := As.mk r7; have HN7 := As.mk n7; obtain ⟨e0, e1, e2, e3, e4⟩ := q7.cells; have f0 := q7.free 0; have f1 := q7.free 1; have f2 := q7.free 2; have f3 := q7.free 3; have f4 := q7.free 4; obtain ⟨d0, d1, d2, d3, d4⟩ := o7.cells; rw [hbw]; clear hw7 k7 q7 o7 r7 l7 HWH HB7)
        | (go_at_call 70; refine HB4.out.mono ?_; rintro e w4 ⟨v4, rfl, O4, g4, R4, G4, K4⟩; obtain ⟨A4, c4, rfl, hc4, r4, n4⟩ := own_cases O4 HNP.out; have hcv4 := conv_str (c := c4) HNP.out r4; have o4 := HO3.out.kp K4 (by have := HBS.out; simp; omega); obtain ⟨-, -, -, d43, -⟩ := o4.cells; have f43 := o4.free 3; have HG4 : As (∀ x, g4 = some x → w.heap.size + 2 ≤ x) := ⟨fun x hx => by rcases G4 with h | h; exact HG3.out x (by rw [← h]; exact hx); rw [h] at hx; cases hx⟩; have HB5 := As.mk (B5_of HBS.out HK3.out HQ3.out o4 R4 HG4.out K4 HL3.out H3.out H4.out); have HK5 := As.mk HB5.out.1; have HQ5 := As.mk HB5.out.2.1; have HO5 := As.mk HB5.out.2.2.1; have HB6 := As.mk HB5.out.2.2.2; clear O4 R4 G4 K4 r4 n4 o4 HB4 HB5)
        | (go_at_call 27; refine (HENB.out A6 c6 w7 HR7.out hc6 HN7.out).mono ?_; rintro e w8 ⟨v8, rfl, k8⟩; have HK8 : As (Kp [] w w8) := ⟨HK7.out.trans k8 (by simp)⟩; have HQ8 := As.mk (HQ7.out.kp k8 (by simp)); obtain ⟨e80, e81, e82, e83, e84⟩ := HQ8.out.cells; have f80 := HQ8.out.free 0; have f81 := HQ8.out.free 1; have f82 := HQ8.out.free 2; have f83 := HQ8.out.free 3; have f84 := HQ8.out.free 4; clear k8))
      have hz := zero_op HK8.out HQ8.out 0 0 0 ⟨#[]⟩ none 0 0
      (try simp only [Exit.inBlock, Exit.then])
      refine bodyPost_ret (res_op rfl rfl hz.1) rfl ?_
      exact odec_none HZ.out hz.2.1
-- END D
end Go.Proofs.Ytlknlpiiogmfbaa.opk
