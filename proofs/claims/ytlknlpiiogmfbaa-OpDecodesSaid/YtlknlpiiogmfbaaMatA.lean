/- op.Matches. -/
import Derived.Test.YtlknlpiiogmfbaaMatP
namespace Go.Proofs.Ytlknlpiiogmfbaa.opk
open Go.RowKit H O haystacklaw13

/-- A place's block. -/
def PlAt (w : World) (b : Nat) (key : ByteArray) (x : Int) : Prop := w.heap[b]? = some (.cells #[.string key, .int .i64 x] 60)
theorem PlAt.cells {w : World} {b : Nat} {key : ByteArray} {x : Int} (h : PlAt w b key x) : w.cell? ⟨b, 0, none⟩ = some (.string key) ∧ w.cell? ⟨b, 1, none⟩ = some (.int .i64 x) := ⟨blk_cell h 0 rfl, blk_cell h 1 rfl⟩
theorem PlAt.new (w : World) (key : ByteArray) (x : Int) : PlAt (w.alloc (.cells #[.string key, .int .i64 x] 60)) w.heap.size key x := heap_alloc_new w _
theorem PlAt.kp {S : List Nat} {w w1 : World} {b : Nat} {key : ByteArray} {x : Int} (h : PlAt w b key x) (hk : Kp S w w1) (hb : b ∉ S) : PlAt w1 b key x := hk.blk h hb
theorem PlAt.free {w : World} {b : Nat} {key : ByteArray} {x : Int} (h : PlAt w b key x) (j : Nat) : w.frozen? ⟨b, j, none⟩ = false := blk_free h j

/-- A Writer of the call's own has laid ys. -/
structure MW (w : World) (b : Nat) (ys : List Int) (wr : World) : Prop where
  lo : w.heap.size ≤ b
  kp : Kp [] w wr
  wr : ∃ g, writer.Wr wr b g ys ∧ ∀ x, g = some x → w.heap.size ≤ x
theorem MW.lt {w wr : World} {b : Nat} {ys : List Int} (h : MW w b ys wr) : b < wr.heap.size := by
  obtain ⟨g, h1, _⟩ := h.wr
  exact h1.lt.1
theorem MW.new (w : World) : MW w w.heap.size [] (w.alloc (.cells #[.slice none 0 0] 85)) :=
  ⟨Nat.le_refl _, (Kp.refl [] w).alloc _, none, writer.Wr.new w, by simp⟩
theorem MW.keep {w wr w1 : World} {b : Nat} {ys : List Int} (h : MW w b ys wr) (k : Kp [] wr w1) : MW w b ys w1 := by
  obtain ⟨g, h1, h2⟩ := h.wr
  exact ⟨h.lo, h.kp.trans k (by simp), g, h1.kp k (by simp) (by simp), h2⟩
theorem MW.next {w wr w1 : World} {b : Nat} {ys zs : List Int} {g g' : Option Nat} (h : MW w b ys wr) (hg : ∀ x, g = some x → w.heap.size ≤ x) (W : writer.Wr w1 b g' zs) (A : At wr.heap.size g g') (k : Kp (b :: g.toList) wr w1) : MW w b zs w1 := by
  refine ⟨h.lo, h.kp.trans k ?_, g', W, A.ge h.kp.size hg⟩
  intro x hx
  rcases List.mem_cons.1 hx with rfl | hx
  · exact .inr h.lo
  · exact .inr (hg x (by simpa using hx))
/-- A number on the Writer. -/
theorem mat_num {w wr : World} {b : Nat} {ys : List Int} (h : MW w b ys wr) (x : Int) (hy : ys.length ≤ 1000000) :
    Calls Try.prog 58 #[.pointer (some ⟨b, 0, none⟩), .slice (some ⟨wr.heap.size, 0, none⟩) 1 1] (wr.alloc (.cells #[.int .i64 x] 3)) fun e w' => e = .returned (.tuple #[]) ∧ MW w b (ys ++ num x) w' := by
  obtain ⟨g, h1, h2⟩ := h.wr
  have hl := h1.lt
  refine (writer.nums_any b g ys (some ⟨wr.heap.size, 0, none⟩) 1 1 [x] _ (h1.kp ((Kp.refl [] wr).alloc _) (by simp) (by simp)) rfl (RdS.lit wr [.int .i64 x] _ ?_) (by omega)).mono ?_
  · intro z hz
    rcases List.mem_cons.1 hz with rfl | hz
    · exact hl.1
    · exact hl.2 z (by simpa using hz)
  · rintro e w' ⟨rfl, g', W, A, K⟩
    refine ⟨rfl, (h.keep ((Kp.refl [] wr).alloc _)).next h2 ?_ A K⟩
    rwa [nums_one] at W
/-- A key on the Writer; the place stays. -/
theorem mat_key {w wr : World} {b : Nat} {ys : List Int} (h : MW w b ys wr) (key : ByteArray) (x : Int) (m : Nat) (hkm : key.size = m) (hm : m ≤ 1000000) (hy : ys.length ≤ 1000000) :
    Calls Try.prog 59 #[.pointer (some ⟨b, 0, none⟩), .slice (some ⟨wr.heap.size + 1 + 1, 0, none⟩) 1 1]
      ((Lib.bytesWorld (wr.alloc (.cells #[.string key, .int .i64 x] 60)) 5 key).alloc (.cells #[.slice (some ⟨wr.heap.size + 1, 0, none⟩) m (grownCap (wr.alloc (.cells #[.string key, .int .i64 x] 60)) m 0 5)] 22)) fun e w' => e = .returned (.tuple #[]) ∧ MW w b (ys ++ row (kb key)) w' ∧ PlAt w' wr.heap.size key x ∧ wr.heap.size < w'.heap.size := by
  obtain ⟨g, h1, h2⟩ := h.wr
  have hl := h1.lt
  obtain ⟨w3, hw3⟩ : ∃ w3, w3 = wr.alloc (.cells #[.string key, .int .i64 x] 60) := ⟨_, rfl⟩
  have hs3 : w3.heap.size = wr.heap.size + 1 := by rw [hw3, World.size_alloc]
  have P3 : PlAt w3 wr.heap.size key x := by rw [hw3]; exact PlAt.new wr key x
  have k3 : Kp [] wr w3 := by rw [hw3]; exact (Kp.refl [] wr).alloc _
  rw [← hw3, ← hs3]
  have hsz := Lib.bytesWorld_size w3 5 key
  have kB := kp_bytes (Kp.refl [] w3) 5 key
  have hS : ∀ x ∈ b :: g.toList, x < wr.heap.size := by
    intro x hx
    rcases List.mem_cons.1 hx with rfl | hx
    · exact hl.1
    · exact hl.2 x (by simpa using hx)
  have hrk := rds_bytes (S := b :: g.toList) w3 5 key (fun x hx => by have := hS x hx; omega)
  obtain ⟨w4, hw4⟩ : ∃ w4, w4 = Lib.bytesWorld w3 5 key := ⟨_, rfl⟩
  rw [← hw4] at hsz kB hrk ⊢
  have hrs := rs_cell (S := b :: g.toList) w4 (some ⟨w3.heap.size, 0, none⟩) (kb key) m (grownCap w3 m 0 5) (by rw [kb_len, hkm]) (grownCap_ge _ _ _ _) (by simp) 22 hrk (fun x hx => by have := hS x hx; omega)
  rw [hsz] at hrs
  have k4 : Kp [] wr (w4.alloc (.cells #[.slice (some ⟨w3.heap.size, 0, none⟩) m (grownCap w3 m 0 5)] 22)) := (k3.trans kB (by simp)).alloc _
  refine (writer.bytes_any b g ys (some ⟨w3.heap.size + 1, 0, none⟩) 1 1 [kb key] _ (h1.kp k4 (by simp) (by simp)) rfl hrs (by simp [kb_len, hkm]; omega)).mono ?_
  rintro e w5 ⟨rfl, g5, W5, A5, K5⟩
  have e1 : rows [kb key] = row (kb key) := by simp [rows]
  rw [e1] at W5
  refine ⟨rfl, (h.keep k4).next h2 W5 A5 K5, ?_, ?_⟩
  · refine ((P3.kp kB (by simp)).kp ((Kp.refl [] w4).alloc _) (by simp)).kp K5 ?_
    intro hm
    have := hS _ hm
    omega
  · have := K5.size
    rw [World.size_alloc] at this
    omega
/-- and out -/
theorem mat_out {w wr : World} {b : Nat} {ys : List Int} (h : MW w b ys wr) (hy : ys.length ≤ 10000000) :
    Calls Try.prog 60 #[.pointer (some ⟨b, 0, none⟩)] wr (fun e w' => ∃ v, e = .returned v ∧ Own 5 .u8 w' w.heap.size v ys ∧ Kp [] w w') := by
  obtain ⟨g, h1, h2⟩ := h.wr
  refine (writer.out_any b g ys wr h1 (by omega)).mono ?_
  rintro e w6 ⟨v, rfl, O6, K6⟩
  exact ⟨v, rfl, O6.lower h.kp.size, h.kp.trans K6 (by simp)⟩

set_option maxHeartbeats 4000000 in
set_option maxRecDepth 100000 in
theorem mat_any (A : Option Addr) (n c : Nat) (ms : List (ByteArray × Int)) (w : World) (hn : ms.length = n) (hr : Rd w A (mv ms)) (hm : mSize ms ≤ 100000) :
    Calls Try.prog 35 #[.slice A n c] w (RetOwn 5 .u8 w (mBytes ms)) := by
  have HR := As.mk hr
  have HN := As.mk hn
  have hn9 : n ≤ 20000 := by have := mSize_len ms; omega
  have HB : As (∀ k, (num (n : Int) ++ mRows (ms.take k)).length ≤ 900000) := ⟨fun k => by
    have h1 := num_len (n : Int)
    have h2 := mRows_len (ms.take k)
    have h3 := mSize_le ms k
    rw [List.length_append]; omega⟩
  have HNW := As.mk (mat_num (MW.new w) (n : Int) (by simp))
  rw [World.size_alloc] at HNW
  have HSZ := As.mk hm
  clear hr hn hm
  go_enter Try.func35, Try.ntmps35
  go_wp2_with (first
    | (go_at_call 58; refine HNW.out.mono ?_; rintro e w3 ⟨rfl, h3⟩; have HW3 := As.mk h3; clear h3 HNW))
  go_loopw [12] (fun i wr => ∃ k : Nat, i = .int .i64 (k : Int) ∧ k ≤ n ∧ As (MW w w.heap.size (num (n : Int) ++ mRows (ms.take k)) wr)) (fun i _ => n - (intOf i).toNat)
  case atStart => exact ⟨0, rfl, by omega, ⟨by simpa [mRows] using HW3.out⟩⟩
  case round =>
    obtain ⟨k, rfl, hk, HW⟩ := hrel
    by_cases hlt : k < n
    · have hlt' : k < ms.length := by rw [HN.out]; exact hlt
      obtain ⟨b0, o0, rfl, d0, d1⟩ := mv_at HR.out k hlt'
      have c0 := HW.out.kp.cell d0 (by simp)
      have c1 := HW.out.kp.cell d1 (by simp)
      have hb0 : b0 < wr.heap.size := World.block_lt_of_cell? wr _ c0
      obtain ⟨key, hkey⟩ : ∃ key, key = ms[k].1 := ⟨_, rfl⟩
      obtain ⟨x, hx⟩ : ∃ x, x = ms[k].2 := ⟨_, rfl⟩
      obtain ⟨m, hkm⟩ : ∃ m, key.size = m := ⟨_, rfl⟩
      rw [← hkey] at c0
      rw [← hx] at c1
      have HST : As (num (n : Int) ++ mRows (ms.take (k + 1)) = num (n : Int) ++ mRows (ms.take k) ++ row (kb key) ++ num x) := ⟨by rw [mRows_step ms k hlt', ← hkey, ← hx]; simp⟩
      have hms : m ≤ 100000 := by
        have h1 := mSize_step ms k hlt'
        have h2 := mSize_le ms (k + 1)
        have h3 := HSZ.out
        rw [← hkey, hkm] at h1
        omega
      have HKEY := As.mk (mat_key HW.out key x m hkm (by omega) (by have := HB.out k; omega))
      have hcv := Lib.run_convert_string_bytes (P := Try.prog) (wr.alloc (.cells #[.string key, .int .i64 x] 60)) 9 22 5 key Try.underlying9 Try.underlying22 Try.underlying5
      rw [hkm, World.size_alloc] at hcv
      have hsz4 := Lib.bytesWorld_size (wr.alloc (.cells #[.string key, .int .i64 x] 60)) 5 key
      rw [World.size_alloc] at hsz4
      have HBD : As ((num (n : Int) ++ mRows (ms.take k) ++ row (kb key)).length ≤ 1000000) := ⟨by
        have h1 := HB.out (k + 1)
        rw [HST.out, List.length_append] at h1
        omega⟩
      clear d0 d1 hkey hx hkm hlt'
      go_wp2_with (first
        | (go_at_call 59; refine HKEY.out.mono ?_; rintro e w5 ⟨rfl, h5, p5, s5⟩; obtain ⟨e0, e1⟩ := p5.cells; have HW6 := As.mk (mat_num h5 x HBD.out); clear h5 p5 HKEY)
        | (go_at_call 58; refine HW6.out.mono ?_; rintro e w7 ⟨rfl, h7⟩; have HW7 := As.mk h7; clear h7 HW6))
      go_roundw
      case rel => exact ⟨k + 1, by go_num, by omega, ⟨by rw [HST.out]; exact HW7.out⟩⟩
      case measure => simp [intOf]; omega
    · obtain rfl : k = n := by omega
      have htk : ms.take k = ms := List.take_of_length_le (by rw [HN.out]; exact Nat.le_refl _)
      rw [htk] at HW
      have HFIN : As (num (k : Int) ++ mRows ms = mBytes ms) := ⟨by rw [mBytes, HN.out]⟩
      rw [HFIN.out] at HW
      have HOUT := As.mk (mat_out HW.out (by have := HB.out k; rw [htk, HFIN.out] at this; omega))
      clear htk
      go_wp2_with (go_at_call 60; refine HOUT.out.mono ?_; rintro e w8 ⟨v, rfl, o8, k8⟩; have HO8 := As.mk o8; have HK8 := As.mk k8; clear o8 k8 HOUT)
      go_ret
      exact ⟨v, rfl, HO8.out, HK8.out⟩
end Go.Proofs.Ytlknlpiiogmfbaa.opk
