/- The document's Reader over nothing: its first number is missing, wherever the empty slice points. -/
import Derived.Test.YtlknlpiiogmfbaaRefR2
namespace Go.Proofs.Ytlknlpiiogmfbaa.refr
open Go.RowKit H O

/-- A Reader over an empty slice. -/
def Emp (w : World) (b : Nat) (A : Option Addr) (c : Nat) : Prop := w.heap[b]? = some (.cells #[.slice A 0 c, .bool false] 98 (0, 0))
theorem Emp.kp {S : List Nat} {w w1 : World} {b : Nat} {A : Option Addr} {c : Nat} (h : Emp w b A c) (k : Kp S w w1) (hb : b ∉ S) : Emp w1 b A c := k.blk h hb
def EmpPost (b : Nat) (v : Value) (w : World) (e : Ending) (w' : World) : Prop := e = .returned v ∧ Rdr w' b none none ∧ Kp [b] w w'
theorem bad_empty {w : World} {b : Nat} {A : Option Addr} {c : Nat} (h : Emp w b A c) : Calls Try.prog 74 #[.pointer (some ⟨b, 0, none⟩)] w (EmpPost b (.tuple #[]) w) := by
  have c0 := blk_cell h 0 rfl
  have c1 := blk_cell h 1 rfl
  have f0 := blk_free h 0
  have f1 := blk_free h 1
  have HB : As (EmpPost b (.tuple #[]) w (.returned (.tuple #[])) ((w.setCell ⟨b, 1, none⟩ (.bool true)).setCell ⟨b, 0, none⟩ (.slice none 0 0))) := ⟨by
    have e1 : (w.setCell ⟨b, 1, none⟩ (.bool true)).heap[b]? = some (.cells #[.slice A 0 c, .bool true] 98 (0, 0)) := heap_setCell_same w b 1 _ _ (.bool true) h
    have e2 : ((w.setCell ⟨b, 1, none⟩ (.bool true)).setCell ⟨b, 0, none⟩ (.slice none 0 0)).heap[b]? = some (.cells #[.slice none 0 0, .bool true] 98 (0, 0)) := heap_setCell_same _ b 0 _ _ (.slice none 0 0) e1
    exact ⟨rfl, ⟨none, 0, e2, rfl, Rd.nil _ _, by simp [left], by omega, fun _ => rfl, by simp, Wf.nil⟩, ((Kp.refl _ w).setCell (.inl (by simp)) _).setCell (.inl (by simp)) _⟩⟩
  clear h
  go_enter Try.func74, Try.ntmps74
  go_wp2
  go_end0
  exact HB.out
set_option maxHeartbeats 1000000 in
theorem raw_empty {w : World} {b : Nat} {A : Option Addr} {c : Nat} (h : Emp w b A c) : Calls Try.prog 79 #[.pointer (some ⟨b, 0, none⟩), .int .i64 1] w (EmpPost b (.slice none 0 0) w) := by
  have c0 := blk_cell h 0 rfl
  have c1 := blk_cell h 1 rfl
  have HBAD := As.mk (bad_empty h)
  clear h
  go_enter Try.func79, Try.ntmps79
  go_wp2_with (go_at_call 74; refine HBAD.out.mono ?_; rintro e w1 ⟨rfl, R1, K1⟩; obtain ⟨A2, c2, hb2, _⟩ := id R1; have c21 := blk_cell hb2 1 rfl; have HP := As.mk (And.intro R1 K1); clear R1 K1 hb2 HBAD)
  go_ret
  exact ⟨rfl, HP.out⟩
set_option maxHeartbeats 1000000 in
theorem num_empty {w : World} {b : Nat} {A : Option Addr} {c : Nat} (h : Emp w b A c) : Calls Try.prog 71 #[.pointer (some ⟨b, 0, none⟩)] w (EmpPost b (.int .i64 0) w) := by
  have HRW := As.mk (raw_empty h)
  clear h
  go_enter Try.func71, Try.ntmps71
  go_wp2
  go_loopw [3, 4] (fun u i wr => i = .int .i64 0 ∧ u = .int .u64 0 ∧ As (wr = w)) (fun _ i _ => 0)
  case atStart => exact ⟨rfl, rfl, ⟨rfl⟩⟩
  case round =>
    obtain ⟨rfl, rfl, ⟨rfl⟩⟩ := hrel
    go_wp2_with (go_at_call 79; refine HRW.out.mono ?_; rintro e w1 ⟨rfl, R1, K1⟩; obtain ⟨A2, c2, hb2, _⟩ := id R1; have c21 := blk_cell hb2 1 rfl; have HP := As.mk (And.intro R1 K1); clear R1 K1 hb2 HRW)
    go_ret
    exact ⟨rfl, HP.out⟩
end Go.Proofs.Ytlknlpiiogmfbaa.refr
