/- A row that is full (capacity = length, its block may be longer): a byte more makes a new row; spoil of such a row writes nothing that was there. -/
import Derived.Test.YtdafiblehgeddaaApp
import Derived.Test.YtdafiblehgeddaaClone
import Derived.Test.YtdafiblehgeddaaUtil1
namespace Go.Proofs.Ytdafiblehgeddaa.haystacklaw1
open Go.RowKit H

theorem app_full {w : World} {ops : Array Oper} {rest : List Oper} {o : Oper} {a : Act} {Q : Exit → Act → World → Prop} (hgd : o.guard = none) (s x : Operand)
    (ho : o.op = .call { callee := .builtin .append, args := #[s, x], argTypes := #[23, 23] })
    (b : Addr) (n : Nat) (xs : List Value) (hs : a.eval s = .slice (some b) n n) (hxs : xs.length = n) (hr : Rd w (some b) xs)
    (d : Addr) (y : Int) (hx : a.eval x = .slice (some d) 1 1) (hd : w.cell? d = some (.int .u8 y)) (hm : n ≤ 70368744177664)
    (h : ∀ g cap w', n + 1 ≤ cap → cap ≤ 9223372036854775807 → w'.ownsRow 0 5 1 (.slice (some ⟨g, 0, none⟩) (n + 1) cap) (n + 1) (xs ++ [.int .u8 y]) → Kp [] w w' → w.heap.size ≤ g →
      wpList Try.prog ops Q rest (a.put o.dst (.slice (some ⟨g, 0, none⟩) (n + 1) cap)) w') : wpList Try.prog ops Q (o :: rest) a w := by
  obtain ⟨i, hi, hz, hsz, hby⟩ := info_parts clone.info_u8
  have hr2 := run_append_grow (P := Try.prog) w 23 o.type 5 i (.int .u8 0) Try.underlying23 hi hz b n n xs (by rw [hsz, Nat.mul_one]; exact hxs)
    (fun j v hv => by obtain ⟨b', e, hc⟩ := hr j v hv; cases e; exact hc) d 1 1 [.int .u8 y] (by rw [hsz]; rfl)
    (fun j v hv => by
      cases j with
      | zero => simp at hv; subst hv; rw [add_zero']; exact hd
      | succ j => simp at hv) (by omega) (by omega) (growslice_fits (by omega) (by rw [hby]; omega))
  have hge := grownCap_ge w (n + 1) n 5
  have hcm : grownCap w (n + 1) n 5 ≤ maxLen := grownCap_le_maxLen w (n + 1) n 5 (by unfold maxLen; omega)
  generalize grownCap w (n + 1) n 5 = G at hr2 hge hcm
  refine wpList_plain hgd fun K hK => ?_
  unfold Oper.wp execOp
  simp only [ho, resolve, invoke, builtin, Sem.run_bind, Sem.run_pure, Result.andThen_ok, List.map_toArray, List.map_cons, List.map_nil, hs, hx, hr2]
  refine hK _ _ (h w.heap.size G _ hge hcm ⟨by simp [hxs], .inr ⟨w.heap.size, G, _, rfl, Nat.zero_le _, heap_alloc_new w.drew _, hge, hcm, ?_, ?_⟩⟩ ((Kp.refl [] w).drew.alloc _) (Nat.le_refl _))
  · simp only [Array.size_append, List.size_toArray, size_zeroCells, hxs, Value.cells, List.length_singleton]
    simp
    omega
  · simp only [Array.toList_append, List.append_assoc, Nat.mul_one]
    rw [← List.append_assoc]
    exact List.take_left' (by simp [hxs])

set_option maxHeartbeats 2000000 in
theorem spoil_full (b : Addr) (n : Nat) (xs : List Value) (w : World) (hxs : xs.length = n) (hr : Rd w (some b) xs) (hb : n ≤ 70368744177664) :
    Calls Try.prog 17 #[.slice (some b) n n] w fun e w' => e = .returned (.tuple #[]) ∧ Kp [] w w' := by
  have HR := As.mk (((Kp.refl [] w).alloc (.cells #[.int .u8 99] 5)).rd_new hr (by simp))
  have HX := As.mk hxs
  clear hr hxs
  go_enter Try.func17, Try.ntmps17
  go_wp2_with (at_builtin; refine app_full rfl (.tmp 4) (.tmp 5) rfl b n xs rfl HX.out HR.out ⟨w.heap.size, 0, none⟩ 99 rfl (by simp) hb ?_; intro g cap w1 hc1 hc2 o1 k1 hg1; have O1 := As.mk o1; have HK : As (Kp [] w w1) := ⟨((Kp.refl _ w).alloc _).trans k1 (by simp)⟩; have HG : As (w.heap.size ≤ g) := ⟨by simp at hg1; omega⟩; clear o1 k1 hg1)
  go_loopw [3] (fun i wr => ∃ k : Nat, i = .int .i64 k ∧ k ≤ n + 1 ∧ As (∃ cs, wr.ownsRow 0 5 1 (.slice (some ⟨g, 0, none⟩) (n + 1) cap) (n + 1) cs) ∧ As (Kp [] w wr)) (fun i _ => n + 1 - (intOf i).toNat)
  case atStart => exact ⟨0, rfl, by omega, ⟨_, O1.out⟩, HK⟩
  case round =>
    obtain ⟨k, rfl, hk, ⟨cs, hcs⟩, hkp⟩ := hrel
    by_cases hlt : k < n + 1
    · obtain ⟨⟨x, hx⟩, hf, hst⟩ := own_store hcs k hlt (.int .u8 98)
      have HC := As.mk hst
      clear hcs hst
      go_wp2
      go_roundw
      case rel => exact ⟨k + 1, by go_num, by omega, ⟨_, HC.out⟩, ⟨hkp.out.setCell (.inr HG.out) _⟩⟩
      case measure => simp [intOf]; omega
    · go_wp2
      go_end0
      exact ⟨rfl, hkp.out⟩

end Go.Proofs.Ytdafiblehgeddaa.haystacklaw1
