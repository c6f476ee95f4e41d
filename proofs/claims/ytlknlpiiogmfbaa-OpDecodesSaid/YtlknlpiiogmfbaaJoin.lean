/- bytes.Join with nothing between: the rows, one behind the other, in new memory. -/
import Derived.Test.YtlknlpiiogmfbaaApp
import Derived.Test.YtlknlpiiogmfbaaClone
import Derived.Test.YtlknlpiiogmfbaaOctet
import Derived.Laws.CopyOwn
import Derived.Laws.Slices
import Derived.Lib.MakeNoZero
import Derived.Laws.Externs
import Derived.ChangeKeysEq
namespace Go.Proofs.Ytlknlpiiogmfbaa.joins
open Go.RowKit H O

/-- A row that is filled from the front, in the block behind w: the bytes zs are laid, T have room. -/
structure Bf (w wr : World) (T : Nat) (zs : List Int) : Prop where
  kp : Kp [] w wr
  ex : ∃ cur : List Value, wr.heap[w.heap.size]? = some (.cells cur.toArray 5 (0, 0)) ∧ T ≤ cur.length ∧ cur.take zs.length = iv .u8 zs ∧ zs.length ≤ T

theorem hs8 : (Try.prog.info? 5).map (·.size) = some 1 := by kernel_rfl
/-- b[p:] of a row of T. -/
theorem tail_of (h T p : Nat) (hb : p ≤ T) : ∃ tl, (∀ W, (Instr.slice 22 (.slice (some ⟨h, 0, none⟩) T T) (some (.int .i64 (p : Int))) none none).run Try.prog W = .ok (.slice (some tl) (T - p) (T - p)) W) ∧ (p < T → tl = ⟨h, p, none⟩) := by
  have ht' : Try.prog.underlying 22 = some (.slice (Try.prog.elem 22)) := by kernel_rfl
  have hz : ∀ w, (Go.sizeOf (Try.prog.elem 22)).run Try.prog w = .ok 1 w := fun w => by
    obtain ⟨i, hi, _⟩ := Option.map_eq_some_iff.1 hs8
    rw [show Try.prog.elem 22 = 5 from by kernel_rfl, run_sizeOf w hi, show Try.prog.cellsOf 5 = 1 from by kernel_rfl]
  refine ⟨if T = p then ⟨h, 0, none⟩ else (⟨h, 0, none⟩ : Addr).add p, fun W => ?_, fun hp => ?_⟩
  · rw [run_slice_l W _ _ _ _ ht' .i64 _ (by omega) (by omega), hz]
    simp only [Result.andThen, sliced, Int.toNat_natCast, Nat.mul_one, Option.map_some]
    split <;> rfl
  · rw [if_neg (by omega), Addr.add_lit, Nat.zero_add]

/-- The operation that writes slot n. -/
theorem at_slot (n : Nat) {P : Program} {w : World} {ops : Array Oper} {rest : List Oper} {op : Op} {ty : TypeId} {pos : String} {after : Array Edge} {guard : Option (Nat × Bool)} {a : Act} {Q : Exit → Act → World → Prop}
    (h : wpList P ops Q (⟨some n, op, ty, pos, after, guard⟩ :: rest) a w) : wpList P ops Q (⟨some n, op, ty, pos, after, guard⟩ :: rest) a w := h
theorem Bf.copy {w wr : World} {T p m c : Nat} {zs x : List Int} (h : Bf w wr T zs) (hz : zs.length = p) {ops : Array Oper} {rest : List Oper} {o : Oper} {a : Act} {Q : Exit → Act → World → Prop} (hgd : o.guard = none) (d s : Operand)
    (ho : o.op = .call { callee := .builtin .copy, args := #[d, s], argTypes := #[22, 22] }) (tl : Addr) (dl dc : Nat) (hdl : dl = T - p) (htl : p < T → tl = ⟨w.heap.size, p, none⟩) (hd : a.eval d = .slice (some tl) dl dc)
    (A : Option Addr) (hs : a.eval s = .slice A m c) (hx : x.length = m) (hr : Rd w A (iv .u8 x)) (hfit : p + m ≤ T)
    (hk : ∀ w', Bf w w' T (zs ++ x) → wpList Try.prog ops Q rest (a.put o.dst (.int .i64 (m : Int))) w') : wpList Try.prog ops Q (o :: rest) a wr := by
  subst hz hx hdl
  obtain ⟨cur, hg, hT, ht, hl⟩ := h.ex
  have hil := iv_len .u8 x
  refine wpList_copy_splice hgd d s _ _ ho 5 Try.underlying22 hs8 (some tl) A _ _ _ _ hd hs w.heap.size zs.length cur 5 hg (iv .u8 x) (by rw [hil]; exact (Nat.min_eq_left (by omega)).symm) ?_ (by rw [hil]; omega) (iv_one _ _) w.heap.size w h.kp.below (Nat.le_refl _) ?_
  · intro hp
    rw [hil] at hp
    refine ⟨by rw [htl (by omega)], ?_⟩
    obtain ⟨ad, rfl, _⟩ := hr.lt (by rw [hil]; exact hp)
    refine ⟨ad, rfl, fun j v hv => ?_⟩
    obtain ⟨ad', he, hc⟩ := (h.kp.rd_new hr (by simp)) j v hv
    cases he
    exact hc
  · intro w' hw' hb'
    rw [hil]
    refine hk w' ⟨Kp.of_below hb' _, _, hw'.out, ?_, ?_, ?_⟩
    · rw [length_splice _ _ _ (by rw [hil]; omega)]
      exact hT
    · have e1 : min (zs.length + x.length) zs.length = zs.length := by omega
      have e2 : min zs.length cur.length = zs.length := by omega
      have e3 : zs.length + x.length - zs.length = x.length := by omega
      unfold splice
      rw [iv_app, List.length_append, List.take_append, List.take_append, List.take_take, List.length_take, hil, e1, e2, e3, ht, List.take_of_length_le (by rw [hil]; exact Nat.le_refl _), Nat.sub_self, List.take_zero, List.append_nil]
    · rw [List.length_append]
      exact hfit
theorem Bf.rd {w wr : World} {T : Nat} {zs : List Int} (h : Bf w wr T zs) : Rd wr (some ⟨w.heap.size, 0, none⟩) (iv .u8 zs) := by
  obtain ⟨cur, hg, hT, ht, hl⟩ := h.ex
  intro j v hv
  refine ⟨_, rfl, ?_⟩
  rw [← ht, List.getElem?_take] at hv
  split at hv
  · rw [Addr.add_lit, Nat.zero_add]
    exact blk_cell hg j (by simpa using hv)
  · cases hv
theorem Bf.lt {w wr : World} {T : Nat} {zs : List Int} (h : Bf w wr T zs) : w.heap.size < wr.heap.size := by
  obtain ⟨cur, hg, _⟩ := h.ex
  exact lt_of_block hg

/-- What Join hands back: a row of its own, or one that is full. -/
def JoinPost (xs : List Int) (w : World) (e : Ending) (w' : World) : Prop :=
  ∃ v, e = .returned v ∧ Kp [] w w' ∧ (Own 5 .u8 w' w.heap.size v xs ∨ ∃ g, v = .slice (some ⟨g, 0, none⟩) xs.length xs.length ∧ w.heap.size ≤ g ∧ g < w'.heap.size ∧ Rd w' (some ⟨g, 0, none⟩) (iv .u8 xs))

theorem flat_step (l : List (List Int)) (k : Nat) (h : k < l.length) : (l.take (k + 1)).flatten = (l.take k).flatten ++ l[k] := by
  rw [take_succ' l k h, List.flatten_append]
  simp
theorem flat_le (l : List (List Int)) (k : Nat) : (l.take k).flatten.length ≤ l.flatten.length := by
  have h := congrArg (fun z => z.flatten.length) (List.take_append_drop k l)
  simp only [List.flatten_append, List.length_append] at h
  omega

set_option maxHeartbeats 8000000 in
set_option maxRecDepth 100000 in
theorem join_many (A : Option Addr) (n c : Nat) (l : List (List Int)) (w : World) (hn : l.length = n) (h2 : 2 ≤ n) (hr : Rs [] w A l) (hc : n ≤ c) (hw : ∀ x ∈ l, Wf x) (hb : l.flatten.length ≤ 70368744177664) (hm : n ≤ 70368744177664) :
    Calls Try.prog 76 #[.slice A n c, .slice none 0 0] w (JoinPost l.flatten w) := by
  obtain ⟨a, rfl⟩ : ∃ a, A = some a := by
    obtain ⟨a, _, _, h, _⟩ := hr 0 (by omega)
    exact ⟨a, h⟩
  have HR := As.mk hr
  have HL := As.mk hn
  have HW := As.mk hw
  clear hr hn hw
  have f0 : ((n : Int) == 0) = false := beq_eq_false_iff_ne.2 (by omega)
  have f1 : ((n : Int) == 1) = false := beq_eq_false_iff_ne.2 (by omega)
  have hs8 : (Try.prog.info? 5).map (·.size) = some 1 := by kernel_rfl
  go_enter Try.func76, Try.ntmps76
  go_wp2
  go_loopw [5, 44] (fun s5 s44 wr => ∃ k : Nat, s44 = .int .i64 (k : Int) ∧ k ≤ n ∧ s5 = .int .i64 (((l.take k).flatten.length : Nat) : Int) ∧ As (wr = w)) (fun _ i _ => n - (intOf i).toNat)
  case atStart => exact ⟨0, rfl, by omega, rfl, ⟨rfl⟩⟩
  case round =>
    obtain ⟨k, rfl, hk, rfl, ⟨rfl⟩⟩ := hrel
    by_cases hlt : k < n
    · have hlx : k < l.length := by rw [HL.out]; exact hlt
      obtain ⟨a', Aj, cj, ha', _, d0, hcj, _, _⟩ := HR.out k hlx
      cases ha'
      have hfs := congrArg List.length (flat_step l k hlx)
      have hfl := flat_le l (k + 1)
      rw [List.length_append] at hfs
      obtain ⟨len, hlen⟩ : ∃ len, l[k].length = len := ⟨_, rfl⟩
      obtain ⟨acc, hacc⟩ : ∃ acc, (l.take k).flatten.length = acc := ⟨_, rfl⟩
      obtain ⟨acc', hacc'⟩ : ∃ acc', (l.take (k + 1)).flatten.length = acc' := ⟨_, rfl⟩
      rw [hlen] at d0 hcj hfs
      rw [hacc, hacc'] at hfs
      rw [hacc'] at hfl
      rw [hacc]
      have hb' : ¬ (9223372036854775807 - (acc : Int) < (len : Int)) := by omega
      have HA' := As.mk hacc'
      have HFS := As.mk hfs
      have HFL : acc + len ≤ l.flatten.length := by omega
      clear hfs hfl hlen hacc hacc'
      go_wp2
      go_roundw
      case rel => exact ⟨k + 1, by go_num, by omega, by rw [HA'.out, HFS.out]; go_num, ⟨trivial⟩⟩
      case measure => simp [intOf]; omega
    · obtain rfl : k = n := by omega
      have hall : l.take k = l := List.take_of_length_le (by rw [HL.out]; omega)
      rw [hall]
      obtain ⟨T, hT⟩ : ∃ T, l.flatten.length = T := ⟨_, rfl⟩
      rw [hT] at hb ⊢
      have HT := As.mk hT
      clear hall hT
      obtain ⟨cs, hrunM, hle, _⟩ := Lib.run_makeNoZero (P := Try.prog) wr #[3] 22 5 Try.underlying22 T (by omega)
      have hcall : (callFunc 80 #[.int .i64 (T : Int)]).run Try.prog wr = .ok (.value (.slice (some ⟨wr.heap.size, 0, none⟩) T cs.size)) ((wr.alloc (.cells cs 5)).drewN 2) := by
        rw [run_callFunc_extern Try.func80 (by kernel_rfl) (by kernel_rfl) (by kernel_rfl) (e := Extern.BytealgMakeNoZero.makeNoZero #[3] #[22]) (by kernel_rfl), hrunM]
        rfl
      have i0 : (0 : Int) ≤ (T : Int) := by omega
      have i1 : (T : Int) ≤ (cs.size : Int) := by omega
      have B0 : Bf wr ((wr.alloc (.cells cs 5)).drewN 2) T [] := ⟨((Kp.refl [] wr).alloc _).drewN 2, cs.toList, by
        have := heap_alloc_new wr (.cells cs 5)
        simpa using this, by simpa using hle, by simp [iv], Nat.zero_le _⟩
      obtain ⟨a', A0, c0, ha', _, d0, hc0, _, r0⟩ := HR.out 0 (by rw [HL.out]; omega)
      cases ha'
      obtain ⟨x0, hx0⟩ : ∃ x0, x0 = l[0]'(by rw [HL.out]; omega) := ⟨_, rfl⟩
      rw [← hx0] at d0 hc0 r0
      obtain ⟨m0, hm0⟩ : ∃ m0, x0.length = m0 := ⟨_, rfl⟩
      rw [hm0] at d0 hc0
      have e0 := B0.kp.cell d0 (by simp)
      rw [add_zero'] at e0
      have hfit0 : 0 + m0 ≤ T := by
        have h1 := flat_step l 0 (by rw [HL.out]; omega)
        have h2 := flat_le l 1
        rw [h1, List.take_zero, List.flatten_nil, List.nil_append, ← hx0, hm0, HT.out] at h2
        omega
      have HB0 := As.mk B0
      have HR0 := As.mk r0.rd
      have HM0 := As.mk hm0
      have HX0 := As.mk hx0
      clear hrunM B0 r0 d0 hx0 hm0
      go_wp2_with (with_reducible refine at_slot 68 ?_; go_loud (refine HB0.out.copy (p := 0) rfl rfl (.tmp 64) (.tmp 67) rfl ⟨wr.heap.size, 0, none⟩ T T (Nat.sub_zero T).symm (fun _ => rfl) rfl A0 rfl HM0.out HR0.out hfit0 ?_); go_loud (intro w1 B1); go_loud (have HB1 := As.mk B1); rw [List.nil_append] at HB1; clear B1)
      obtain ⟨w0, rfl⟩ : ∃ w0, w0 = wr := ⟨_, rfl⟩
      have HC0 : As ((l.take (0 + 1)).flatten = x0) := ⟨by rw [flat_step l 0 (by rw [HL.out]; omega), List.take_zero, List.flatten_nil, List.nil_append, ← HX0.out]⟩
      have hc1 : ¬ c = 1 := by omega
      go_loopw [9, 72] (fun s9 s72 wr => ∃ j : Nat, s72 = .int .i64 (j : Int) ∧ j ≤ k - 1 ∧ s9 = .int .i64 (((l.take (j + 1)).flatten.length : Nat) : Int) ∧ As (Bf w0 wr T (l.take (j + 1)).flatten)) (fun _ i _ => k - 1 - (intOf i).toNat)
      case atStart => exact ⟨0, rfl, by omega, by rw [HC0.out, HM0.out], ⟨by rw [HC0.out]; exact HB1.out⟩⟩
      case round =>
        obtain ⟨j, rfl, hj, rfl, HB⟩ := hrel
        obtain ⟨p, hp⟩ : ∃ p, (l.take (j + 1)).flatten.length = p := ⟨_, rfl⟩
        rw [hp]
        have hpT : p ≤ T := by have := flat_le l (j + 1); rw [hp, HT.out] at this; exact this
        have HP := As.mk hp
        by_cases hlt : j < k - 1
        · have hlx : j + 1 < l.length := by rw [HL.out]; omega
          obtain ⟨a', Aj, cj, ha', _, d1, hcj, _, rj⟩ := HR.out (j + 1) hlx
          cases ha'
          obtain ⟨x, hx⟩ : ∃ x, x = l[j + 1] := ⟨_, rfl⟩
          rw [← hx] at d1 hcj rj
          obtain ⟨len, hlen⟩ : ∃ len, x.length = len := ⟨_, rfl⟩
          rw [hlen] at d1 hcj
          have d2 := HB.out.kp.cell d1 (by simp)
          rw [show a.add (j + 1) = ⟨a.block, a.off + 1 + j, none⟩ from by unfold Addr.add; rw [if_neg (by omega)]; congr 1; omega] at d2
          have hstep := flat_step l (j + 1) hlx
          rw [← hx] at hstep
          have hlens := congrArg List.length hstep
          rw [List.length_append, hp, hlen] at hlens
          have hfit : p + len ≤ T := by have := flat_le l (j + 1 + 1); rw [hlens, HT.out] at this; exact this
          obtain ⟨tl, hsl, htl⟩ := tail_of w0.heap.size T p hpT
          have HLEN := As.mk hlen
          have HRJ := As.mk rj.rd
          have HSTEP := As.mk hstep
          have HLENS := As.mk hlens
          have HTL := As.mk htl
          have hjz : (j : Int) < ((k - 1 : Nat) : Int) := by omega
          clear hx d1 rj hstep hlens htl hlen hp
          go_wp2_with (first
            | (with_reducible refine at_slot 81 ?_; refine wpList_copy_nothing rfl (.tmp 79) (.tmp 80) 22 22 rfl 5 Try.underlying22 hs8 (some tl) none (T - p) (T - p) 0 0 rfl rfl (Nat.zero_min _) ?_)
            | (with_reducible refine at_slot 88 ?_; refine HB.out.copy HP.out rfl (.tmp 86) (.tmp 87) rfl tl (T - p) (T - p) rfl HTL.out rfl Aj rfl HLEN.out HRJ.out hfit ?_; intro w5 B5; have HB5 := As.mk B5; clear B5))
          go_roundw
          case rel => exact ⟨j + 1, by go_num, by omega, by rw [HLENS.out]; go_num, ⟨by rw [HSTEP.out]; exact HB5.out⟩⟩
          case measure => simp [intOf]; omega
        · obtain rfl : j = k - 1 := by omega
          have hjz : ¬ (((k - 1 : Nat) : Int) < ((k - 1 : Nat) : Int)) := by omega
          have hall : l.take (k - 1 + 1) = l := List.take_of_length_le (by rw [HL.out]; omega)
          rw [hall] at HB
          clear hp
          go_wp2
          go_ret
          exact ⟨_, rfl, HB.out.kp, .inr ⟨w0.heap.size, by rw [HT.out]; rfl, Nat.le_refl _, HB.out.lt, HB.out.rd⟩⟩

set_option maxHeartbeats 4000000 in
theorem join_any (A : Option Addr) (n c : Nat) (l : List (List Int)) (w : World) (hn : l.length = n) (hr : Rs [] w A l) (hc : n ≤ c) (hw : ∀ x ∈ l, Wf x) (hb : l.flatten.length ≤ 70368744177664) (hm : n ≤ 70368744177664) :
    Calls Try.prog 76 #[.slice A n c, .slice none 0 0] w (JoinPost l.flatten w) := by
  by_cases h2 : 2 ≤ n
  · exact join_many A n c l w hn h2 hr hc hw hb hm
  · by_cases h0 : n = 0
    · subst h0
      have hl : l = [] := List.eq_nil_of_length_eq_zero hn
      subst hl
      clear hr hw hb
      go_enter Try.func76, Try.ntmps76
      go_wp2
      go_ret
      exact ⟨_, rfl, (Kp.refl [] w).alloc _, .inl ⟨own_new w [] _ (Nat.zero_le _), by simp [Value.ownBlock]⟩⟩
    · obtain rfl : n = 1 := by omega
      obtain ⟨a, A0, c0, rfl, _, d0, hc0, hn0, r0⟩ := hr 0 (by omega)
      obtain ⟨x, hx⟩ : ∃ x, x = l[0]'(by omega) := ⟨_, rfl⟩
      rw [← hx] at d0 hc0 r0
      rw [add_zero'] at d0
      obtain ⟨m, hlen⟩ : ∃ m, x.length = m := ⟨_, rfl⟩
      rw [hlen] at d0 hc0
      have hfl : l.flatten = x := by
        match l, hn, hx with
        | [y], _, hx => rw [hx]; simp
      rw [hfl] at hb ⊢
      rw [hlen] at hb
      have HR := As.mk r0.rd
      have HN := As.mk hn0
      have HX := As.mk hlen
      clear hr hw hx hn r0 hn0 hlen hfl
      go_enter Try.func76, Try.ntmps76
      go_wp2_with (at_builtin; refine clone.app8 rfl (.const (.slice none 0 0)) (.tmp 21) rfl (.slice none 0 0) 0 [] rfl (World.ownsRow_nil w 0 _ 1) A0 m c0 (iv .u8 x) rfl (by rw [iv_len, HX.out]) HR.out HN.out (iv_one _ _) (by omega) ?_; intro v6 w6 o6 k6 a6; have HO6 := As.mk o6; have HK6 := As.mk k6; have HA6 := As.mk a6; clear o6 k6 a6)
      go_ret
      exact ⟨v6, rfl, HK6.out.mono (by simp [Value.ownBlock]), .inl (own_of_app HX.out HO6.out HA6.out (Nat.le_refl _) (by simp [Value.ownBlock]))⟩

theorem ojoin_any (A : Option Addr) (n c : Nat) (l : List (List Int)) (w : World) (hn : l.length = n) (hr : Rs [] w A l) (hc : n ≤ c) (hw : ∀ x ∈ l, Wf x) (hb : l.flatten.length ≤ 70368744177664) (hm : n ≤ 70368744177664) :
    Calls Try.prog 46 #[.slice A n c] w (JoinPost l.flatten w) := by
  have HJ := As.mk (join_any A n c l w hn hr hc hw hb hm)
  clear hn hr hw hb
  go_enter Try.func46, Try.ntmps46
  go_wp2_with (go_at_call 76; refine HJ.out.mono ?_; rintro e w1 ⟨v, rfl, k1, o1⟩; have HK := As.mk k1; have HO := As.mk o1; clear k1 o1)
  go_ret
  exact ⟨v, rfl, HK.out, HO.out⟩
/-- What is handed back, read. -/
theorem post_rd {xs : List Int} {w w' : World} {v : Value} (o : Own 5 .u8 w' w.heap.size v xs ∨ ∃ g, v = .slice (some ⟨g, 0, none⟩) xs.length xs.length ∧ w.heap.size ≤ g ∧ g < w'.heap.size ∧ Rd w' (some ⟨g, 0, none⟩) (iv .u8 xs))
    (n : Nat) (hn : xs.length = n) (hm : n ≤ 70368744177664) : ∃ A c, v = .slice A n c ∧ n ≤ c ∧ c ≤ 9223372036854775807 ∧ Rd w' A (iv .u8 xs) ∧ (A = none → c = 0) := by
  subst hn
  rcases o with o | ⟨g, rfl, _, _, h⟩
  · obtain ⟨A, c, rfl, h1, h2, h3, h4⟩ := own_rd o.1
    exact ⟨A, c, rfl, h1, h2, h3, h4⟩
  · exact ⟨_, _, rfl, Nat.le_refl _, by omega, h, by simp⟩

end Go.Proofs.Ytlknlpiiogmfbaa.joins
