/- The walk of ManifestPlays: of every script of changes what is said, and the map. -/
import Derived.Test.YtiabdeciadfiiaaManZ
import Derived.Test.YtiabdeciadfiiaaBase
import Derived.Deep.CutRange
import Derived.Deep.CutBlock
namespace Go.Proofs.Ytiabdeciadfiiaa.haystacklaw21
open Go.RowKit H O opk man mref

/-- a step's own copy -/
def StepB (w : World) (X : Nat) (s : Stp) (AL : Option Addr) (cL : Nat) (AN : Option Addr) (cN : Nat) (AB : Option Addr) (cB : Nat) : Prop :=
  w.heap[X]? = some (.cells #[.int .i64 s.kind, .int .i64 s.n, .int .i64 s.shard, .int .i64 s.off, .slice AL s.lists.length cL, .slice AN s.nodes.length cN, .slice AB s.b.length cB] 57 (0, 0))

theorem moveR_ok (u ss : Int) (l : List Int) : Wf (moveR u ss l) ∧ (moveR u ss l).length ≤ 100000 := by
  unfold moveR
  split
  · rename_i hm
    have hl := grp_len (show grp l = true from by simp only [mvOk, decide_eq_true_eq] at hm; exact hm.2.2)
    constructor
    · intro x hx
      rcases List.mem_append.1 hx with h | h
      · exact nums_u8 _ x h
      · exact nodesB_wf _ x h
    · have h1 := nodesB_len l
      have h2 := nums_len [2, u, ss]
      simp only [List.length_cons, List.length_nil] at h2
      rw [moveB, List.length_append]
      omega
  · exact ⟨Wf.nil, by simp⟩

theorem PJ.roomy {w : World} {b bx : Nat} {g : Option Nat} {vm : Nat} {sm : List (List Int)} {dm : Int} {vx : Nat} {sx : List (List Int)} {dx : Int} {wr : World} (h : PJ w b bx g vm sm dm vx sx dx wr) {A : Option Addr} {n c : Nat} {xs : List Int} (hi : In (SX b bx g) wr A n c xs) :
    Calls Try.prog 17 #[.slice A n c] wr fun e w' => ∃ A1 c1, e = .returned (.slice A1 (n + 1) c1) ∧ n + 1 ≤ c1 ∧ (A1 = none → c1 = 0) ∧ RdS (SX b bx g) w' A1 (iv .u8 (xs ++ [171])) ∧ In (SX b bx g) w' A1 n c1 xs ∧ Kp [] wr w' := by
  have hlen := hi.len
  refine (roomy_any A n c xs wr hi.len hi.rd.rd hi.cap.2.2 (by rw [hlen]; exact hi.small)).mono ?_
  rintro e w1 ⟨v, rfl, o, k⟩
  obtain ⟨A1, c1, rfl, h1, h2, _, n1⟩ := own_rd o.1
  have hl : (xs ++ [171]).length = n + 1 := by rw [List.length_append, hlen]; rfl
  have hf := h.fresh o
  rw [hl] at h1 ⊢
  refine ⟨A1, c1, rfl, h1, n1, hf, ⟨hlen, ?_, ⟨by omega, h2, n1⟩, hi.small, hi.wf⟩, k⟩
  rw [iv_app] at hf
  exact hf.app
theorem skip_nat (d : Nat) (ix : Int) : ∃ d2 : Nat, skipD d ix = (d2 : Int) ∧ d2 ≤ d + 2 := by
  unfold skipD
  split
  · exact ⟨ix.toNat, by omega, by omega⟩
  · exact ⟨d, rfl, by omega⟩
theorem inst_nat (ver : Nat) (sh : List (List Int)) (xs : List Int) (d : Nat) (ix : Int) (h0 : 0 ≤ ix) (h1 : ix ≤ (d : Int) + 2) : ∃ d2 : Nat, (instD ver sh d ix xs).2.2 = (d2 : Int) ∧ d2 ≤ d + 2 := by
  unfold instD
  split
  · exact ⟨ix.toNat, by show ix = _; omega, by omega⟩
  · exact ⟨d, rfl, by omega⟩
theorem apply_nat (ver : Nat) (sh : List (List Int)) (xs : List Int) (d : Nat) (ix : Int) : ∃ d2 : Nat, (mApply ver sh d ix xs).1.2.2 = (d2 : Int) ∧ d2 ≤ d + 2 := by
  unfold mApply
  split
  · exact ⟨ix.toNat, by show ix = _; omega, by omega⟩
  · exact ⟨d, rfl, by omega⟩
theorem apply_len (ver : Nat) (sh : List (List Int)) (xs : List Int) (d : Nat) (ix : Int) : (mApply ver sh d ix xs).2.length ≤ 1000000 := by
  unfold mApply
  split
  · have := repBytes_len (mDo ver sh xs).2.2 [((mDo ver sh xs).1 : Int)]
    show (repBytes _ _).length ≤ _
    omega
  · simp

set_option maxHeartbeats 8000000 in
set_option maxRecDepth 100000 in
theorem mplays_law (w : World) (A : Option Addr) (n c : Nat) (l : List Stp) (hn : l.length = n) (hr : SRd w A l) (hok : ∀ s ∈ l, StpOk s) (hb : n ≤ 9223372036854775807) :
    Calls Try.prog 5 #[.slice A n c] w fun e w' => e = .returned (.bool true) ∧ Below w.heap.size w w' := by
  have HH := As.mk (heavy_any A n c l w hn hr hok hb)
  have HN := As.mk hn
  have HR := As.mk hr
  have HOK := As.mk hok
  clear hn hr hok
  go_enter Try.func5, Try.ntmps5
  go_upto_region 7 with (first
    | (go_at_call 24; refine HH.out.mono ?_; rintro e w1 ⟨⟨hv, rfl⟩, q, rfl⟩; have HK1 : As (Kp [] w (w.drewN q)) := ⟨(Kp.refl [] w).drewN q⟩; clear HH)
    | (go_at_call 8; refine (known_any _).mono ?_; rintro e w2 ⟨rfl, k2⟩; have HK2 : As (Kp [] w w2) := ⟨HK1.out.trans k2 (by simp)⟩; clear k2)
    | (go_at_call 9; refine (man.new_any _).mono ?_; rintro e w3 ⟨rfl, hw3⟩; have HS3 : As (w3 = (w.drewN q).alloc (.cells #[.int .i64 0, .slice none 0 0, .int .i64 0] 77)) := ⟨hw3⟩; clear hw3))
  · go_ret
    exact ⟨rfl, HK2.out.below⟩
  · have hs3 : w3.heap.size = w.heap.size + 1 := by rw [HS3.out]; simp
    have HJ0 : As (PJ w w.heap.size (w.heap.size + 1) none 0 [] 0 0 [] 0 (w3.alloc (.cells #[.int .i64 0, .slice none 0 0, .int .i64 0] 55))) := ⟨by
      have k3 : Kp [] w w3 := by rw [HS3.out]; exact HK1.out.alloc _
      have kA : Kp [] w3 (w3.alloc (.cells #[.int .i64 0, .slice none 0 0, .int .i64 0] 55)) := (Kp.refl [] w3).alloc _
      have m3 : MSt [w.heap.size + 1] w.heap.size w.heap.size none 0 [] 0 w3 := by
        have := MSt.new (T := [w.heap.size + 1]) (lo := w.heap.size) (w.drewN q)
        rw [HS3.out]
        exact this
      have b3 := heap_alloc_new w3 (.cells #[.int .i64 0, .slice none 0 0, .int .i64 0] 55)
      rw [hs3] at b3
      exact ⟨k3.trans kA (by simp), m3.kp kA (by simp), ⟨none, 0, b3, Ri.nil _ _ _, Nat.le_refl _, by omega, fun _ => rfl⟩, ⟨by decide, by decide, by simp, by simp⟩, ⟨by decide, by decide, by simp, by simp⟩, ⟨Nat.le_refl _, by omega, by omega⟩⟩⟩
    obtain ⟨W, hW⟩ : ∃ W, W = w3.alloc (.cells #[.int .i64 0, .slice none 0 0, .int .i64 0] 55) := ⟨_, rfl⟩
    rw [← hW] at HJ0
    rw [← hW, hs3]
    clear hW hs3 HS3 HK1
    go_wp2
    go_loopw [5] (fun i wr => ∃ (k : Nat) (g : Option Nat) (ver : Nat) (sh : List (List Int)) (d : Nat), i = .int .i64 (k : Int) ∧ k ≤ n ∧ k ≤ 100 ∧ d ≤ 2 * k ∧ As (PJ w w.heap.size (w.heap.size + 1) g ver sh d ver sh d wr)) (fun i _ => n - (intOf i).toNat)
    case atStart => exact ⟨0, none, 0, [], 0, rfl, by omega, by omega, by omega, HJ0⟩
    case round =>
      obtain ⟨k, g, ver, sh, d, rfl, hk, hk9, hd, HJ⟩ := hrel
      by_cases hgo : k < n ∧ k < 100
      · obtain ⟨hlt, h100⟩ := hgo
        have hlt' : k < l.length := by rw [HN.out]; exact hlt
        obtain ⟨b0, o0, rfl, hst⟩ := HR.out k hlt'
        have hokk := HOK.out _ (List.getElem_mem hlt')
        obtain ⟨s, hs⟩ : ∃ s, s = l[k] := ⟨_, rfl⟩
        rw [← hs] at hst hokk
        obtain ⟨AB, cB, e60, hrb0, hb1, hb2, hb3⟩ := hst.b
        have HRB0 := As.mk hrb0
        have e6 := HJ.out.kp.cell e60 (by simp)
        have hst := hst.kp HJ.out.kp
        obtain ⟨e0, e1, e2, e3⟩ := hst.nums
        obtain ⟨AL, cL, e4, hri⟩ := hst.lists
        obtain ⟨AN, cN, e5, hrn, hnn⟩ := hst.nodes
        obtain ⟨nL, hnL⟩ : ∃ m, s.lists.length = m := ⟨_, rfl⟩
        obtain ⟨nN, hnN⟩ : ∃ m, s.nodes.length = m := ⟨_, rfl⟩
        obtain ⟨nB, hnB⟩ : ∃ m, s.b.length = m := ⟨_, rfl⟩
        rw [hnL] at e4
        rw [hnN] at e5
        rw [hnB] at e6 hb1
        obtain ⟨kk, hkk⟩ : ∃ x, x = s.kind := ⟨_, rfl⟩
        obtain ⟨sn, hsn⟩ : ∃ x, x = s.n := ⟨_, rfl⟩
        obtain ⟨ss, hss⟩ : ∃ x, x = s.shard := ⟨_, rfl⟩
        obtain ⟨so, hso⟩ : ∃ x, x = s.off := ⟨_, rfl⟩
        rw [← hkk] at e0
        rw [← hsn] at e1
        rw [← hss] at e2
        rw [← hso] at e3
        have HLI := As.mk (And.intro hnL (And.intro hri hokk.lists))
        have HNO := As.mk (And.intro hnN (And.intro hrn (And.intro hnn hokk.nodes)))
        have HIN : As (In (SX w.heap.size (w.heap.size + 1) g) wr AB nB cB s.b) := ⟨⟨hnB, HJ.out.inp HRB0.out, ⟨hb1, hb2, hb3⟩, by have := hokk.b.1; omega, hokk.b.2⟩⟩
        have i0 : (0 : Int) ≤ (k : Int) := by omega
        have i1 : (k : Int) < (n : Int) := by omega
        have i2 : (k : Int) < 100 := by omega
        clear hst hokk hs hri hrn hnn hrb0 HRB0 e60 hb1 hb2 hb3 hnL hnN hnB hlt' hkk hsn hss hso
        go_upto_region 11 with fail
        obtain ⟨W1, hW1⟩ : ∃ W1, W1 = wr.alloc (.cells #[.int .i64 kk, .int .i64 sn, .int .i64 ss, .int .i64 so, .slice AL nL cL, .slice AN nN cN, .slice AB nB cB] 57) := ⟨_, rfl⟩
        rw [← hW1]
        have HK1 : As (Kp [] wr W1) := ⟨by rw [hW1]; exact (Kp.refl [] wr).alloc _⟩
        have hbX : W1.heap[wr.heap.size]? = some (.cells #[.int .i64 kk, .int .i64 sn, .int .i64 ss, .int .i64 so, .slice AL nL cL, .slice AN nN cN, .slice AB nB cB] 57 (0, 0)) := by rw [hW1]; exact heap_alloc_new wr _
        have HBX := As.mk hbX
        have HJ1 := As.mk (HJ.out.keep HK1.out)
        have HIN1 := As.mk (HIN.out.to (HIN.out.rd.kp HK1.out (by simp)))
        obtain ⟨o1, ho1⟩ : ∃ o1 : Int, (if (if so < 1 then so else 1) > -1 then (if so < 1 then so else 1) else -1) = o1 := ⟨_, rfl⟩
        have ho1b : -1 ≤ o1 ∧ o1 ≤ 1 := by rw [← ho1]; split <;> split <;> omega
        obtain ⟨p1, hp1⟩ : ∃ p1 : Int, (if so < 1 then so else 1) = p1 := ⟨_, rfl⟩
        have hmin : ∀ w, (Builtin.min_ #[3, 3] 3 #[.int .i64 1, .int .i64 so]).run Try.prog w = .ok (.int .i64 p1) w := fun w => by rw [writer.min_two, hp1]
        have hmax : ∀ w, (Builtin.max_ #[3, 3] 3 #[.int .i64 (-1), .int .i64 p1]).run Try.prog w = .ok (.int .i64 o1) w := fun w => by rw [writer.max_two, ← ho1, hp1]
        have x0 := blk_cell hbX 0 rfl
        have x1 := blk_cell hbX 1 rfl
        have x2 := blk_cell hbX 2 rfl
        have x3 := blk_cell hbX 3 rfl
        have x4 := blk_cell hbX 4 rfl
        have x5 := blk_cell hbX 5 rfl
        have x6 := blk_cell hbX 6 rfl
        obtain ⟨A0, c0, hbm, _⟩ := HJ1.out.x.blk
        have y2 := blk_cell hbm 2 rfl
        have HBM := As.mk hbm
        obtain ⟨hob0, hob1⟩ := ho1b
        clear hbX hbm hW1 ho1 hp1 e0 e1 e2 e3 e4 e5 e6
        go_quiet (fail)
        have HSAME : As (∀ (zs : List Int) (nz : Nat) wX A1 c1 A2 c2, zs.length = nz → nz ≤ 140737488351233 → Rd wX A1 (iv .u8 zs) → Rd wX A2 (iv .u8 zs) → Calls Try.prog 11 #[.slice A1 nz c1, .slice A2 nz c2] wX fun e w' => e = .returned (.bool true) ∧ Kp [] wX w') := ⟨fun zs nz wX A1 c1 A2 c2 hz hl r1 r2 => by
          refine (same_any A1 A2 nz c1 nz c2 zs zs wX hz hz r1 r2 (by omega)).mono ?_
          rintro e w' ⟨rfl, q, rfl⟩
          exact ⟨by rw [decide_eq_true rfl], (Kp.refl [] wX).drewN q⟩⟩
        go_upto_block 2 with fail
        go_cut [8, 9, 10, 11, 12, 13, 14, 15, 16, 17] from 56 to 123 (fun v8 v9 _ _ _ _ _ _ _ _ wx => v8 = .bool true ∧ ∃ (AB2 : Option Addr) (nB2 cB2 : Nat) (zs : List Int), v9 = .slice AB2 nB2 cB2 ∧ As (Kp [] W1 wx) ∧ As (In (SX w.heap.size (w.heap.size + 1) g) wx AB2 nB2 cB2 zs))
        case first =>
          by_cases k1 : kk = 1
          · subst k1
            obtain ⟨F, hF⟩ : ∃ F, F = foundR s.lists := ⟨_, rfl⟩
            obtain ⟨nF, hnF⟩ : ∃ m, F.length = m := ⟨_, rfl⟩
            obtain ⟨zF, hzF⟩ : ∃ z, z = okZ (gOk s.lists) := ⟨_, rfl⟩
            have hF9 : nF ≤ 200000 := by
              rw [← hnF, hF]
              unfold foundR
              split
              · rename_i hg
                have h1 := gridB_len s.lists
                have h2 := num_len 1
                have h3 := gOk_size hg
                rw [foundB, List.length_append]
                omega
              · simp
            have wF : Wf F := by
              rw [hF]
              unfold foundR
              split
              · intro x hx
                rcases List.mem_append.1 hx with h | h
                · exact num_u8 _ x h
                · exact gridB_wf _ x h
              · exact Wf.nil
            have HF1 : As (∀ wX, Kp [] W1 wX → Calls Try.prog 10 #[.slice AL nL cL] wX fun e w' => ∃ A c, e = .returned (.tuple #[.slice A nF c, .int .i64 zF]) ∧ Rd w' A (iv .u8 F) ∧ Kp [] wX w') := ⟨fun wX kX => by
              refine (man.found_gen AL nL cL s.lists wX HLI.out.1 (HLI.out.2.1.kp (HK1.out.trans kX (by simp)) (by simp) (by simp)) HLI.out.2.2.2 (by have h8 := HLI.out.1; have h9 := HLI.out.2.2.1; omega)).mono ?_
              rintro e w' ⟨v, rfl, o, k⟩
              rw [← hF] at o
              obtain ⟨A, c, hv, _, _, r, _⟩ := own_rd o.1
              rw [hnF] at hv
              subst hv
              rw [← hzF]
              exact ⟨A, c, rfl, r, k⟩⟩
            have HF2 : As (∀ wX, Kp [] W1 wX → Calls Try.prog 25 #[.slice AL nL cL] wX fun e w' => ∃ A c, e = .returned (.tuple #[.slice A nF c, .int .i64 zF]) ∧ In (SX w.heap.size (w.heap.size + 1) g) w' A nF c F ∧ Kp [] wX w') := ⟨fun wX kX => by
              refine (mref.found_gen AL nL cL s.lists wX HLI.out.1 (HLI.out.2.1.kp (HK1.out.trans kX (by simp)) (by simp) (by simp)) HLI.out.2.2.2 (by have h8 := HLI.out.1; have h9 := HLI.out.2.2.1; omega)).mono ?_
              rintro e w' ⟨v, rfl, o, k⟩
              rw [← hF] at o
              obtain ⟨A, c, rfl, hin⟩ := (HJ1.out.keep kX).newIn hnF o (by omega) wF
              rw [← hzF]
              exact ⟨A, c, rfl, hin, k⟩⟩
            have HNF := As.mk hnF
            clear hF hnF hzF wF
            go_wp2_with (first
              | (go_at_call 10; refine (HF1.out _ ((Kp.refl [] W1).drewN _)).mono ?_; rintro e w5 ⟨A5, c5, rfl, r5, k5⟩; have HK5 : As (Kp [] W1 w5) := ⟨((Kp.refl [] W1).drewN _).trans k5 (by simp)⟩; have z4 := HK5.out.cell x4 (by simp); have HR5 := As.mk r5; have HF5 := As.mk (HF2.out w5 HK5.out); clear r5 k5 HF1)
              | (go_at_call 25; refine HF5.out.mono ?_; rintro e w6 ⟨A6, c6, rfl, h6, k6⟩; have HK6 : As (Kp [] W1 w6) := ⟨HK5.out.trans k6 (by simp)⟩; have HI6 := As.mk h6; have HS6 := As.mk (HSAME.out F nF w6 A5 c5 A6 c6 HNF.out (by omega) (k6.rd HR5.out (fun _ _ => by simp)) h6.rd.rd); clear h6 k6 HF5)
              | (go_at_call 11; refine HS6.out.mono ?_; rintro e w7 ⟨rfl, k7⟩; have HK7 : As (Kp [] W1 w7) := ⟨HK6.out.trans k7 (by simp)⟩; have HI7 := As.mk (HI6.out.to (HI6.out.rd.kp k7 (by simp))); clear k7 HS6))
            go_meet
            exact ⟨rfl, A6, nF, c6, F, rfl, HK7, HI7⟩
          · by_cases k2 : kk = 2
            · subst k2
              obtain ⟨u, hu⟩ : ∃ u, IntKind.i64.wrap ((ver : Int) + sn) = u := ⟨_, rfl⟩
              obtain ⟨F, hF⟩ : ∃ F, F = moveR u ss s.nodes := ⟨_, rfl⟩
              obtain ⟨nF, hnF⟩ : ∃ m, F.length = m := ⟨_, rfl⟩
              obtain ⟨zF, hzF⟩ : ∃ z, z = okZ (mvOk u ss s.nodes) := ⟨_, rfl⟩
              have hF9 : nF ≤ 100000 := by rw [← hnF, hF]; exact (moveR_ok u ss s.nodes).2
              have wF : Wf F := by rw [hF]; exact (moveR_ok u ss s.nodes).1
              have HF1 : As (∀ wX, Kp [] W1 wX → Calls Try.prog 13 #[.int .i64 u, .int .i64 ss, .slice AN nN cN] wX fun e w' => ∃ A c, e = .returned (.tuple #[.slice A nF c, .int .i64 zF]) ∧ Rd w' A (iv .u8 F) ∧ Kp [] wX w') := ⟨fun wX kX => by
                refine (man.move_any u ss AN nN cN s.nodes wX HNO.out.1 ((HK1.out.trans kX (by simp)).rd HNO.out.2.1 (fun _ _ => by simp)) (by have h8 := HNO.out.1; have h9 := HNO.out.2.2.2; omega)).mono ?_
                rintro e w' ⟨v, rfl, o, k⟩
                rw [← hF] at o
                obtain ⟨A, c, hv, _, _, r, _⟩ := own_rd o.1
                rw [hnF] at hv
                subst hv
                rw [← hzF]
                exact ⟨A, c, rfl, r, k⟩⟩
              have HF2 : As (∀ wX, Kp [] W1 wX → Calls Try.prog 26 #[.int .i64 u, .int .i64 ss, .slice AN nN cN] wX fun e w' => ∃ A c, e = .returned (.tuple #[.slice A nF c, .int .i64 zF]) ∧ In (SX w.heap.size (w.heap.size + 1) g) w' A nF c F ∧ Kp [] wX w') := ⟨fun wX kX => by
                refine (mref.move_any u ss AN nN cN s.nodes wX HNO.out.1 ((HK1.out.trans kX (by simp)).rd HNO.out.2.1 (fun _ _ => by simp)) HNO.out.2.2.1 (by have h8 := HNO.out.1; have h9 := HNO.out.2.2.2; omega)).mono ?_
                rintro e w' ⟨v, rfl, o, k⟩
                rw [← hF] at o
                obtain ⟨A, c, rfl, hin⟩ := (HJ1.out.keep kX).newIn hnF o (by omega) wF
                rw [← hzF]
                exact ⟨A, c, rfl, hin, k⟩⟩
              have HNF := As.mk hnF
              have KX : As (∀ wX, Kp [] W1 wX → wX.cell? ⟨w.heap.size + 1, 0, none⟩ = some (.int .i64 (ver : Int)) ∧ wX.cell? ⟨wr.heap.size, 1, none⟩ = some (.int .i64 sn) ∧ wX.cell? ⟨wr.heap.size, 2, none⟩ = some (.int .i64 ss) ∧ wX.cell? ⟨wr.heap.size, 5, none⟩ = some (.slice AN nN cN)) := ⟨fun wX kX => ⟨kX.cell (blk_cell HBM.out 0 rfl) (by simp), kX.cell (blk_cell HBX.out 1 rfl) (by simp), kX.cell (blk_cell HBX.out 2 rfl) (by simp), kX.cell (blk_cell HBX.out 5 rfl) (by simp)⟩⟩
              clear hF hnF hzF wF
              go_upto_region 21 with fail
              go_region_held3 (fun wX => wX.cell? ⟨w.heap.size + 1, 0, none⟩ = some (.int .i64 (ver : Int)) ∧ wX.cell? ⟨wr.heap.size, 1, none⟩ = some (.int .i64 sn) ∧ wX.cell? ⟨wr.heap.size, 2, none⟩ = some (.int .i64 ss) ∧ wX.cell? ⟨wr.heap.size, 5, none⟩ = some (.slice AN nN cN))
                (first | exact KX.out _ ((Kp.refl [] W1).drewN _) | exact KX.out _ ((Kp.refl [] W1).drewN _).drew | exact KX.out _ HK5.out | exact KX.out _ HK5.out.drew) (first
                | (go_at_call 13; refine (HF1.out _ (by first | exact ((Kp.refl [] W1).drewN _) | exact ((Kp.refl [] W1).drewN _).drew)).mono ?_; rintro e w5 ⟨A5, c5, rfl, r5, k5⟩; have HK5 : As (Kp [] W1 w5) := ⟨Kp.trans (by first | exact ((Kp.refl [] W1).drewN _) | exact ((Kp.refl [] W1).drewN _).drew) k5 (by simp)⟩; have HR5 := As.mk r5; clear r5 k5 HF1))
              go_upto_region 22 with fail
              go_region_held3 (fun wX => wX.cell? ⟨w.heap.size + 1, 0, none⟩ = some (.int .i64 (ver : Int)) ∧ wX.cell? ⟨wr.heap.size, 1, none⟩ = some (.int .i64 sn) ∧ wX.cell? ⟨wr.heap.size, 2, none⟩ = some (.int .i64 ss) ∧ wX.cell? ⟨wr.heap.size, 5, none⟩ = some (.slice AN nN cN))
                (first | exact KX.out _ HK5.out | exact KX.out _ HK5.out.drew | exact KX.out _ (HK5.out.drewN _) | exact KX.out _ HK6.out | exact KX.out _ HK6.out.drew) (first
                | (go_at_call 26; refine (HF2.out _ (by first | exact HK5.out | exact HK5.out.drew | exact HK5.out.drewN _)).mono ?_; rintro e w6 ⟨A6, c6, rfl, h6, k6⟩; have kk6 : Kp [] w5 w6 := Kp.trans (by first | exact (Kp.refl [] w5) | exact (Kp.refl [] w5).drew | exact (Kp.refl [] w5).drewN _) k6 (by simp); have HK6 : As (Kp [] W1 w6) := ⟨HK5.out.trans kk6 (by simp)⟩; have HI6 := As.mk h6; have HS6 := As.mk (HSAME.out F nF w6 A5 c5 A6 c6 HNF.out (by omega) (kk6.rd HR5.out (fun _ _ => by simp)) h6.rd.rd); clear h6 k6 kk6 HF2))
              go_wp2_with (first
                | (go_at_call 11; refine HS6.out.mono ?_; rintro e w7 ⟨rfl, k7⟩; have HK7 : As (Kp [] W1 w7) := ⟨HK6.out.trans k7 (by simp)⟩; have HI7 := As.mk (HI6.out.to (HI6.out.rd.kp k7 (by simp))); clear k7 HS6))
              go_meet
              exact ⟨rfl, A6, nF, c6, F, rfl, HK7, HI7⟩
            · have c1 : (kk == 1) = false := by simpa using k1
              have c2 : (kk == 2) = false := by simpa using k2
              clear k1 k2
              go_wp2
              go_meet
              exact ⟨rfl, AB, nB, cB, s.b, rfl, ⟨(Kp.refl [] W1).drewN _⟩, ⟨HIN1.out.to (HIN1.out.rd.kp ((Kp.refl [] W1).drewN _) (by simp))⟩⟩
        case rest =>
          obtain ⟨rfl, AB2, nB2, cB2, zs, rfl, HKC, HIC⟩ := hcut
          have HJC := As.mk (HJ1.out.keep HKC.out)
          have x0 := HKC.out.cell (blk_cell HBX.out 0 rfl) (by simp)
          obtain ⟨ix, hix⟩ : ∃ ix : Int, (d : Int) + 1 + o1 = ix := ⟨_, rfl⟩
          have hix0 : 0 ≤ ix := by omega
          have hix1 : ix ≤ (d : Int) + 2 := by omega
          rw [hix]
          clear hix hob0 hob1 HBM HBX HIN HIN1 HLI HNO HK1 HJ hmin hmax x1 x2 x3 x4 x5 x6 y2 HJ1
          go_upto_block 3 with fail
          go_cut [8, 18] from 126 to 186 (fun v8 _ wx => v8 = .bool true ∧ ∃ (g2 : Option Nat) (ver2 : Nat) (sh2 : List (List Int)) (d2 : Nat), d2 ≤ d + 2 ∧ As (PJ w w.heap.size (w.heap.size + 1) g2 ver2 sh2 d2 ver2 sh2 d2 wx))
          case first =>
            by_cases k4 : kk = 4
            · subst k4
              obtain ⟨d2, hd2, hd3⟩ := skip_nat d ix
              have HM1 : As (∀ wX, Kp [] wc wX → Calls Try.prog 27 #[.pointer (some ⟨w.heap.size, 0, none⟩), .int .i64 ix] wX fun e w' => e = .returned (.tuple #[]) ∧ As (PJ w w.heap.size (w.heap.size + 1) g ver sh d2 ver sh d w')) := ⟨fun wX kX => by
                refine ((HJC.out.keep kX).mskip (by omega) ix).mono ?_
                rintro e w' ⟨rfl, hp, _⟩
                rw [hd2] at hp
                exact ⟨rfl, ⟨hp⟩⟩⟩
              have HX1 : As (∀ wX, PJ w w.heap.size (w.heap.size + 1) g ver sh d2 ver sh d wX → Calls Try.prog 28 #[.pointer (some ⟨w.heap.size + 1, 0, none⟩), .int .i64 ix] wX fun e w' => e = .returned (.tuple #[]) ∧ As (PJ w w.heap.size (w.heap.size + 1) g ver sh d2 ver sh d2 w')) := ⟨fun wX pX => by
                refine (pX.xskip (by omega) ix).mono ?_
                rintro e w' ⟨rfl, hp, _⟩
                rw [hd2] at hp
                exact ⟨rfl, ⟨hp⟩⟩⟩
              go_wp2_with (first
                | (go_at_call 27; refine (HM1.out _ (by first | exact Kp.refl [] _ | exact (Kp.refl [] _).drewN _)).mono ?_; rintro e w5 ⟨rfl, HJ5⟩; clear HM1)
                | (go_at_call 28; refine (HX1.out _ HJ5.out).mono ?_; rintro e w6 ⟨rfl, HJ6⟩; clear HX1))
              go_meet
              exact ⟨rfl, g, ver, sh, d2, hd3, HJ6⟩
            · by_cases k5 : kk = 5
              · subst k5
                obtain ⟨d2, hd2, hd3⟩ := inst_nat ver sh zs d ix hix0 hix1
                obtain ⟨v2, hv2⟩ : ∃ v2, (instD ver sh d ix zs).1 = v2 := ⟨_, rfl⟩
                obtain ⟨s2, hs2⟩ : ∃ s2, (instD ver sh d ix zs).2.1 = s2 := ⟨_, rfl⟩
                obtain ⟨z, hz⟩ : ∃ z, (mDec zs).2.2 = z := ⟨_, rfl⟩
                have bz : (z == z) = true := by simp
                have HM1 : As (∀ wX A c, PJ w w.heap.size (w.heap.size + 1) g ver sh d ver sh d wX → In (SX w.heap.size (w.heap.size + 1) g) wX A nB2 c zs → Calls Try.prog 29 #[.pointer (some ⟨w.heap.size, 0, none⟩), .int .i64 ix, .slice A nB2 c] wX fun e w' => ∃ g2, e = .returned (.int .i64 z) ∧ As (PJ w w.heap.size (w.heap.size + 1) g2 v2 s2 d2 ver sh d w') ∧ As (∀ A vs, RdS (SX w.heap.size (w.heap.size + 1) g) wX A vs → RdS (SX w.heap.size (w.heap.size + 1) g2) w' A vs)) := ⟨fun wX A c pX iX => by
                  refine (pX.minst ix iX).mono ?_
                  rintro e w' ⟨g2, rfl, hp, hm⟩
                  rw [hv2, hs2, hd2] at hp
                  rw [hz]
                  exact ⟨g2, rfl, ⟨hp⟩, ⟨hm⟩⟩⟩
                have HX1 : As (∀ wX g2 A c, PJ w w.heap.size (w.heap.size + 1) g2 v2 s2 d2 ver sh d wX → In (SX w.heap.size (w.heap.size + 1) g2) wX A nB2 c zs → Calls Try.prog 30 #[.pointer (some ⟨w.heap.size + 1, 0, none⟩), .int .i64 ix, .slice A nB2 c] wX fun e w' => e = .returned (.int .i64 z) ∧ As (PJ w w.heap.size (w.heap.size + 1) g2 v2 s2 d2 v2 s2 d2 w')) := ⟨fun wX g2 A c pX iX => by
                  refine (pX.xinst ix iX).mono ?_
                  rintro e w' ⟨rfl, hp, _⟩
                  rw [hv2, hs2, hd2] at hp
                  rw [hz]
                  exact ⟨rfl, ⟨hp⟩⟩⟩
                go_wp2_with (first
                  | (go_at_call 29; refine (HM1.out _ _ _ (by first | exact HJC.out | exact HJC.out.keep ((Kp.refl [] _).drewN _)) (by first | exact HIC.out | exact HIC.out.to (HIC.out.rd.kp ((Kp.refl [] _).drewN _) (by simp)))).mono ?_; rintro e w5 ⟨g5, rfl, HJ5, HM5⟩; have HI5 := As.mk (HIC.out.to (HM5.out _ _ (by first | exact HIC.out.rd | exact HIC.out.rd.kp ((Kp.refl [] _).drewN _) (by simp)))); clear HM1)
                  | (go_at_call 30; refine (HX1.out _ _ _ _ HJ5.out HI5.out).mono ?_; rintro e w6 ⟨rfl, HJ6⟩; clear HX1))
                go_meet
                exact ⟨rfl, g5, v2, s2, d2, hd3, HJ6⟩
              · by_cases k6 : kk = 6
                · subst k6
                  obtain ⟨B, hB⟩ : ∃ B, mapB ver sh = B := ⟨_, rfl⟩
                  obtain ⟨nB, hnB⟩ : ∃ m, B.length = m := ⟨_, rfl⟩
                  have hnB9 : nB ≤ 1000000 := by rw [← hnB, ← hB]; exact mapB_len HJC.out.okm
                  have HNB := As.mk hnB
                  obtain ⟨d2, hd2, hd3⟩ := inst_nat ver sh B d ix hix0 hix1
                  obtain ⟨v2, hv2⟩ : ∃ v2, (instD ver sh d ix B).1 = v2 := ⟨_, rfl⟩
                  obtain ⟨s2, hs2⟩ : ∃ s2, (instD ver sh d ix B).2.1 = s2 := ⟨_, rfl⟩
                  obtain ⟨z, hz⟩ : ∃ z, (mDec B).2.2 = z := ⟨_, rfl⟩
                  have bz : (z == z) = true := by simp
                  have HM1 : As (∀ wX A c, PJ w w.heap.size (w.heap.size + 1) g ver sh d ver sh d wX → In (SX w.heap.size (w.heap.size + 1) g) wX A nB c B → Calls Try.prog 29 #[.pointer (some ⟨w.heap.size, 0, none⟩), .int .i64 ix, .slice A nB c] wX fun e w' => ∃ g2, e = .returned (.int .i64 z) ∧ As (PJ w w.heap.size (w.heap.size + 1) g2 v2 s2 d2 ver sh d w') ∧ As (∀ A vs, RdS (SX w.heap.size (w.heap.size + 1) g) wX A vs → RdS (SX w.heap.size (w.heap.size + 1) g2) w' A vs)) := ⟨fun wX A c pX iX => by
                    refine (pX.minst ix iX).mono ?_
                    rintro e w' ⟨g2, rfl, hp, hm⟩
                    rw [hv2, hs2, hd2] at hp
                    rw [hz]
                    exact ⟨g2, rfl, ⟨hp⟩, ⟨hm⟩⟩⟩
                  have HX1 : As (∀ wX g2 A c, PJ w w.heap.size (w.heap.size + 1) g2 v2 s2 d2 ver sh d wX → In (SX w.heap.size (w.heap.size + 1) g2) wX A nB c B → Calls Try.prog 30 #[.pointer (some ⟨w.heap.size + 1, 0, none⟩), .int .i64 ix, .slice A nB c] wX fun e w' => e = .returned (.int .i64 z) ∧ As (PJ w w.heap.size (w.heap.size + 1) g2 v2 s2 d2 v2 s2 d2 w')) := ⟨fun wX g2 A c pX iX => by
                    refine (pX.xinst ix iX).mono ?_
                    rintro e w' ⟨rfl, hp, _⟩
                    rw [hv2, hs2, hd2] at hp
                    rw [hz]
                    exact ⟨rfl, ⟨hp⟩⟩⟩
                  have HS1 : As (∀ wX, PJ w w.heap.size (w.heap.size + 1) g ver sh d ver sh d wX → Calls Try.prog 31 #[.pointer (some ⟨w.heap.size, 0, none⟩)] wX fun e w' => ∃ A c, e = .returned (.slice A nB c) ∧ In (SX w.heap.size (w.heap.size + 1) g) w' A nB c B ∧ Kp [] wX w') := ⟨fun wX pX => by
                    have := pX.msnap (m := nB) (by rw [hB]; exact hnB)
                    rw [hB] at this
                    exact this⟩
                  have HS1b := HS1
                  have HS2 : As (∀ wX g2 v2 s2 d2, PJ w w.heap.size (w.heap.size + 1) g2 v2 s2 d2 ver sh d wX → Calls Try.prog 32 #[.pointer (some ⟨w.heap.size + 1, 0, none⟩)] wX fun e w' => ∃ A c, e = .returned (.slice A nB c) ∧ In (SX w.heap.size (w.heap.size + 1) g2) w' A nB c B ∧ Kp [] wX w') := ⟨fun wX g2 v2 s2 d2 pX => by
                    have := pX.xsnap (m := nB) (by rw [hB]; exact hnB)
                    rw [hB] at this
                    exact this⟩
                  have HS2b := HS2
                  clear hB hnB
                  go_wp2_with (first
                    | (go_at_call 31; refine (HS1.out _ (by first | exact HJC.out | exact HJC.out.keep ((Kp.refl [] _).drewN _))).mono ?_; rintro e w5 ⟨A5, c5, rfl, i5, k5⟩; have kk5 : Kp [] wc w5 := (by first | exact k5 | exact ((Kp.refl [] wc).drewN _).trans k5 (by simp)); have HJ5 := As.mk (HJC.out.keep kk5); have HR5 := As.mk i5.rd.rd; clear i5 k5 kk5 HS1)
                    | (go_at_call 32; refine (HS2.out _ _ _ _ _ HJ5.out).mono ?_; rintro e w6 ⟨A6, c6, rfl, i6, k6⟩; have HJ6 := As.mk (HJ5.out.keep k6); have HS6 := As.mk (HSAME.out B nB w6 A5 c5 A6 c6 HNB.out (by omega) (k6.rd HR5.out (fun _ _ => by simp)) i6.rd.rd); clear i6 k6 HS2)
                    | (go_at_call 11; refine HS6.out.mono ?_; rintro e w7 ⟨rfl, k7⟩; have HJ7 := As.mk (HJ6.out.keep k7); clear k7 HS6)
                    | (go_at_call 31; refine (HS1b.out _ HJ7.out).mono ?_; rintro e w8 ⟨A8, c8, rfl, i8, k8⟩; have HJ8 := As.mk (HJ7.out.keep k8); have HI8 := As.mk i8; clear i8 k8 HS1b)
                    | (go_at_call 29; refine (HM1.out _ _ _ HJ8.out HI8.out).mono ?_; rintro e w9 ⟨g9, rfl, HJ9, _⟩; clear HM1)
                    | (go_at_call 32; refine (HS2b.out _ _ _ _ _ HJ9.out).mono ?_; rintro e wa ⟨Aa, ca, rfl, ia, ka⟩; have HJa := As.mk (HJ9.out.keep ka); have HIa := As.mk ia; clear ia ka HS2b)
                    | (go_at_call 30; refine (HX1.out _ _ _ _ HJa.out HIa.out).mono ?_; rintro e wb ⟨rfl, HJb⟩; clear HX1))
                  go_meet
                  exact ⟨rfl, g9, v2, s2, d2, hd3, HJb⟩
                · obtain ⟨d2, hd2, hd3⟩ := apply_nat ver sh zs d ix
                  obtain ⟨v2, hv2⟩ : ∃ v2, (mApply ver sh d ix zs).1.1 = v2 := ⟨_, rfl⟩
                  obtain ⟨s2, hs2⟩ : ∃ s2, (mApply ver sh d ix zs).1.2.1 = s2 := ⟨_, rfl⟩
                  obtain ⟨R, hR⟩ : ∃ R, (mApply ver sh d ix zs).2 = R := ⟨_, rfl⟩
                  obtain ⟨m, hm⟩ : ∃ m, R.length = m := ⟨_, rfl⟩
                  have hm9 : m ≤ 1000000 := by rw [← hm, ← hR]; exact apply_len ver sh zs d ix
                  have HM := As.mk hm
                  have hdd : (0 : Int) ≤ (d : Int) ∧ (d : Int) ≤ 1000000 := by omega
                  have HRO : As (∀ wX, PJ w w.heap.size (w.heap.size + 1) g ver sh d ver sh d wX → In (SX w.heap.size (w.heap.size + 1) g) wX AB2 nB2 cB2 zs → Calls Try.prog 17 #[.slice AB2 nB2 cB2] wX fun e w' => ∃ A1 c1, e = .returned (.slice A1 (nB2 + 1) c1) ∧ nB2 + 1 ≤ c1 ∧ (A1 = none → c1 = 0) ∧ RdS (SX w.heap.size (w.heap.size + 1) g) w' A1 (iv .u8 (zs ++ [171])) ∧ In (SX w.heap.size (w.heap.size + 1) g) w' A1 nB2 c1 zs ∧ Kp [] wX w') := ⟨fun wX pX iX => pX.roomy iX⟩
                  have HSL : As (∀ A1 c1, nB2 + 1 ≤ c1 → (A1 = none → c1 = 0) → ∀ W, (Instr.slice 26 (.slice A1 (nB2 + 1) c1) none (some (.int .i64 (nB2 : Int))) none).run Try.prog W = .ok (.slice A1 nB2 c1) W) := ⟨fun A1 c1 h1 h2 => slice_head ht8 hz8 A1 (nB2 + 1) c1 nB2 (by omega) h2⟩
                  have HM1 : As (∀ wX A c, PJ w w.heap.size (w.heap.size + 1) g ver sh d ver sh d wX → In (SX w.heap.size (w.heap.size + 1) g) wX A nB2 c zs → Calls Try.prog 12 #[.pointer (some ⟨w.heap.size, 0, none⟩), .int .i64 ix, .slice A nB2 c] wX fun e w' => ∃ A2 c2 g2, e = .returned (.slice A2 m c2) ∧ RdS [w.heap.size + 1] w' A2 (iv .u8 R) ∧ As (PJ w w.heap.size (w.heap.size + 1) g2 v2 s2 d2 ver sh d w') ∧ As (∀ A vs, RdS (SX w.heap.size (w.heap.size + 1) g) wX A vs → RdS (SX w.heap.size (w.heap.size + 1) g2) w' A vs)) := ⟨fun wX A c pX iX => by
                    refine (pX.mapply hdd ix iX (m := m) (by rw [hR]; exact hm)).mono ?_
                    rintro e w' ⟨A2, c2, g2, rfl, hr, hp, hq⟩
                    rw [hv2, hs2, hd2] at hp
                    rw [hR] at hr
                    exact ⟨A2, c2, g2, rfl, hr, ⟨hp⟩, ⟨hq⟩⟩⟩
                  have HX1 : As (∀ wX g2 A c, PJ w w.heap.size (w.heap.size + 1) g2 v2 s2 d2 ver sh d wX → In (SX w.heap.size (w.heap.size + 1) g2) wX A nB2 c zs → Calls Try.prog 33 #[.pointer (some ⟨w.heap.size + 1, 0, none⟩), .int .i64 ix, .slice A nB2 c] wX fun e w' => ∃ A2 c2, e = .returned (.slice A2 m c2) ∧ Rd w' A2 (iv .u8 R) ∧ As (PJ w w.heap.size (w.heap.size + 1) g2 v2 s2 d2 v2 s2 d2 w') ∧ Kp [w.heap.size + 1] wX w' ∧ As (∀ A vs, RdS (SX w.heap.size (w.heap.size + 1) g2) wX A vs → RdS (SX w.heap.size (w.heap.size + 1) g2) w' A vs)) := ⟨fun wX g2 A c pX iX => by
                    refine (pX.xapply hdd ix iX (m := m) (by rw [hR]; exact hm)).mono ?_
                    rintro e w' ⟨A2, c2, rfl, hr, hp, hk, hq⟩
                    rw [hv2, hs2, hd2] at hp
                    rw [hR] at hr
                    exact ⟨A2, c2, rfl, hr, ⟨hp⟩, hk, ⟨hq⟩⟩⟩
                  have HST : As (∀ wX A1 c1, nB2 + 1 ≤ c1 → Rd wX A1 (iv .u8 (zs ++ [171])) → Rd wX AB2 (iv .u8 zs) → Calls Try.prog 21 #[.slice A1 (nB2 + 1) c1, .slice AB2 nB2 cB2] wX fun e w' => e = .returned (.bool true) ∧ Kp [] wX w') := ⟨fun wX A1 c1 h1 r1 r2 => by
                    have hl := HIC.out.len
                    have hs := HIC.out.small
                    refine (stands_any A1 AB2 (nB2 + 1) c1 nB2 cB2 (zs ++ [171]) zs wX (by rw [List.length_append, hl]; rfl) hl r1 r2 h1 (by rw [List.length_append, hl]; simp; omega) (by rw [hl]; omega)).mono ?_
                    rintro e w' ⟨rfl, q, rfl⟩
                    exact ⟨by rw [decide_eq_true rfl], (Kp.refl [] wX).drewN q⟩⟩
                  have c4 : (kk == 4) = false := by simpa using k4
                  have c5 : (kk == 5) = false := by simpa using k5
                  have c6 : (kk == 6) = false := by simpa using k6
                  clear k4 k5 k6 hv2 hs2 hd2 hR hm
                  go_wp2_with (first
                    | (go_at_call 17; refine (HRO.out _ (by first | exact HJC.out | exact HJC.out.keep ((Kp.refl [] _).drewN _)) (by first | exact HIC.out | exact HIC.out.to (HIC.out.rd.kp ((Kp.refl [] _).drewN _) (by simp)))).mono ?_; rintro e w5 ⟨A5, c5, rfl, g5, n5, r5, i5, k5⟩; have kk5 : Kp [] wc w5 := (by first | exact k5 | exact ((Kp.refl [] wc).drewN _).trans k5 (by simp)); have HJ5 := As.mk (HJC.out.keep kk5); have HR5 := As.mk r5; have HI5 := As.mk i5; have HB5 := As.mk (HIC.out.to (HIC.out.rd.kp kk5 (by simp))); have HG5 := As.mk g5; have hsl := HSL.out A5 c5 g5 n5; clear g5 n5 r5 i5 k5 kk5 HRO)
                    | (go_at_call 12; refine (HM1.out _ _ _ HJ5.out HI5.out).mono ?_; rintro e w6 ⟨A6, c6, g6, rfl, r6, HJ6, HM6⟩; have HR6 := As.mk r6; have HS6 := As.mk (HM6.out _ _ HR5.out); have HB6 := As.mk (HB5.out.to (HM6.out _ _ HB5.out.rd)); clear r6 HM1)
                    | (go_at_call 33; refine (HX1.out _ _ _ _ HJ6.out HB6.out).mono ?_; rintro e w7 ⟨A7, c7, rfl, r7, HJ7, k7, HM7⟩; have HS7 := As.mk (HM7.out _ _ HS6.out); have HB7 := As.mk (HM7.out _ _ HB6.out.rd); have HSM := As.mk (HSAME.out R m w7 A6 c6 A7 c7 HM.out (by omega) (HR6.out.kp k7 (by simp)).rd r7); clear r7 k7 HX1)
                    | (go_at_call 11; refine HSM.out.mono ?_; rintro e w8 ⟨rfl, k8⟩; have HJ8 := As.mk (HJ7.out.keep k8); have HT8 := As.mk (HST.out w8 A5 c5 HG5.out (k8.rd HS7.out.rd (fun _ _ => by simp)) (k8.rd HB7.out.rd (fun _ _ => by simp))); clear k8 HSM)
                    | (go_at_call 21; refine HT8.out.mono ?_; rintro e w9 ⟨rfl, k9⟩; have HJ9 := As.mk (HJ8.out.keep k9); clear k9 HT8))
                  go_meet
                  exact ⟨rfl, g6, v2, s2, d2, hd3, HJ9⟩
          case rest =>
            obtain ⟨rfl, g2, v2, s2, d2, hd2, HJ2⟩ := hcut
            clear HIC HSAME HKC HJC x0
            obtain ⟨AX, cX, hbX, hriX, _⟩ := HJ2.out.x.blk
            obtain ⟨n2, hn2⟩ : ∃ m, s2.length = m := ⟨_, rfl⟩
            rw [hn2] at hbX
            have HBX := As.mk hbX
            have HRX := As.mk (hriX.sub (S2 := []) (fun x hx => by simp at hx))
            have hok := HJ2.out.okm
            have hn8 : n2 ≤ 8 := by rw [← hn2]; exact hok.2.1
            have HAP : As (∀ wX, Kp [] wc wX → Calls Try.prog 16 #[.pointer (some ⟨w.heap.size, 0, none⟩)] wX fun e w' => e = .returned (.int .i64 (d2 : Int)) ∧ Kp [] wc w') := ⟨fun wX kX => by
              refine (man.applied_any _ _ _ _ _ _ _ wX (HJ2.out.keep kX).m).mono ?_
              rintro e w' ⟨rfl, rfl⟩
              exact ⟨rfl, kX⟩⟩
            have HMP : As (∀ wX, Kp [] wc wX → Calls Try.prog 14 #[.pointer (some ⟨w.heap.size, 0, none⟩)] wX fun e w' => ∃ A c, e = .returned (.agg #[.int .i64 (v2 : Int), .slice A n2 c]) ∧ OwnL [] w' wX.heap.size (.slice A n2 c) s2 ∧ Kp [] wX w') := ⟨fun wX kX => by
              refine (man.map_any _ _ _ _ _ _ _ wX (HJ2.out.keep kX).m hok).mono ?_
              rintro e w' ⟨A, c, rfl, o, k⟩
              rw [hn2] at o ⊢
              exact ⟨A, c, rfl, o, k⟩⟩
            have HMA : As (∀ wX A1 c1, Kp [] wc wX → Ri [] wX A1 s2 → Calls Try.prog 20 #[.agg #[.int .i64 (v2 : Int), .slice A1 n2 c1], .agg #[.int .i64 (v2 : Int), .slice AX n2 cX]] wX fun e w' => e = .returned (.bool true) ∧ Kp [] wc w') := ⟨fun wX A1 c1 kX r1 => by
              refine (maps_any (v2 : Int) A1 AX n2 c1 cX s2 wX hn2 r1 (HRX.out.kp kX (by simp) (by simp)) (by omega) (fun x hx => by have := hok.2.2.1 x hx; omega)).mono ?_
              rintro e w' ⟨rfl, k⟩
              exact ⟨rfl, kX.trans k (by simp)⟩⟩
            have HMPb := HMP
            have HN2 := As.mk hn2
            have HOK2 := As.mk hok
            have KX : As (∀ wX, Kp [] wc wX → wX.cell? ⟨w.heap.size + 1, 0, none⟩ = some (.int .i64 (v2 : Int)) ∧ wX.cell? ⟨w.heap.size + 1, 1, none⟩ = some (.slice AX n2 cX) ∧ wX.cell? ⟨w.heap.size + 1, 2, none⟩ = some (.int .i64 (d2 : Int))) := ⟨fun wX kX => ⟨kX.cell (blk_cell HBX.out 0 rfl) (by simp), kX.cell (blk_cell HBX.out 1 rfl) (by simp), kX.cell (blk_cell HBX.out 2 rfl) (by simp)⟩⟩
            have bd : ((d2 : Int) == (d2 : Int)) = true := by simp
            clear hbX hriX hok hn2
            go_upto_region 35 with fail
            go_region_held3 (fun wX => wX.cell? ⟨w.heap.size + 1, 0, none⟩ = some (.int .i64 (v2 : Int)) ∧ wX.cell? ⟨w.heap.size + 1, 1, none⟩ = some (.slice AX n2 cX) ∧ wX.cell? ⟨w.heap.size + 1, 2, none⟩ = some (.int .i64 (d2 : Int)))
              (exact KX.out _ (by first | exact Kp.refl [] _ | exact (Kp.refl [] _).drew | exact (Kp.refl [] _).drewN _ | exact ka.out | exact ka.out.drew | exact kb.out | exact kb.out.drew | exact kb.out.drewN _ | exact kd.out | exact kd.out.drew | exact kd.out.drewN _)) (first
              | (go_at_call 16; refine (HAP.out _ (by first | exact Kp.refl [] _ | exact (Kp.refl [] _).drew | exact (Kp.refl [] _).drewN _ | exact ka.out | exact ka.out.drew | exact kb.out | exact kb.out.drew | exact kb.out.drewN _ | exact kd.out | exact kd.out.drew | exact kd.out.drewN _)).mono ?_; rintro e wa ⟨rfl, k9⟩; have ka := As.mk k9; clear k9 HAP)
              | (go_at_call 14; refine (HMP.out _ (by first | exact Kp.refl [] _ | exact (Kp.refl [] _).drew | exact (Kp.refl [] _).drewN _ | exact ka.out | exact ka.out.drew | exact kb.out | exact kb.out.drew | exact kb.out.drewN _ | exact kd.out | exact kd.out.drew | exact kd.out.drewN _)).mono ?_; rintro e wb ⟨Ab, cb, rfl, ob, k9⟩; have kb : As (Kp [] wc wb) := ⟨Kp.trans (by first | exact Kp.refl [] _ | exact (Kp.refl [] _).drew | exact (Kp.refl [] _).drewN _ | exact ka.out | exact ka.out.drew | exact kb.out | exact kb.out.drew | exact kb.out.drewN _ | exact kd.out | exact kd.out.drew | exact kd.out.drewN _) k9 (by simp)⟩; have HMM := As.mk (fun wY (kY : Kp [] wb wY) => HMA.out wY Ab cb (kb.out.trans kY (by simp)) ((ob.ri (S2 := []) (by simp)).kp kY (by simp) (by simp))); clear k9 ob HMP)
              | (go_at_call 20; refine (HMM.out _ (by first | exact Kp.refl [] _ | exact (Kp.refl [] _).drew | exact (Kp.refl [] _).drewN _)).mono ?_; rintro e wd ⟨rfl, k9⟩; have kd := As.mk k9; clear k9 HMM))
            clear KX HRX HBX
            have HJD := As.mk (HJ2.out.keep kd.out)
            go_wp2_with (first
              | (go_at_call 14; refine (HMPb.out _ kd.out).mono ?_; rintro e we ⟨Ay, cy, rfl, oy, k9⟩; have HYS := As.mk (YS.new (ver := (v2 : Int)) oy HN2.out); have HKY : As (Kp [] wd (we.alloc (.cells #[.int .i64 (v2 : Int), .slice Ay n2 cy] 36))) := ⟨k9.alloc _⟩; clear k9 oy HMPb))
            obtain ⟨ls, hls⟩ : ∃ ls, s2.map List.length = ls := ⟨_, rfl⟩
            have hln : ls.length = n2 := by rw [← hls, List.length_map]; exact HN2.out
            have hl7 : ∀ i (h : i < ls.length), ls[i] ≤ 7 := by
              subst hls
              intro i h
              rw [List.getElem_map]
              exact HOK2.out.2.2.1 _ (List.getElem_mem _)
            rw [hls] at HYS
            have HL7 := As.mk hl7
            obtain ⟨Y, hY⟩ : ∃ Y, we.heap.size = Y := ⟨_, rfl⟩
            rw [hY] at HYS ⊢
            clear hls hl7 hY
            go_loopw [20] (fun v wx => ∃ i : Nat, v = .int .i64 (i : Int) ∧ i ≤ n2 ∧ As (YS wd.heap.size Y Ay n2 cy (v2 : Int) ls wx) ∧ As (Kp [] wd wx)) (fun v _ => n2 - (intOf v).toNat)
            case atStart => exact ⟨0, rfl, by omega, HYS, HKY⟩
            case round =>
              obtain ⟨i, rfl, hi, HY, HK⟩ := hrel
              obtain ⟨y0, y1⟩ := HY.out.1.cells
              by_cases hlt2 : i < n2
              · have hi' : i < ls.length := by omega
                obtain ⟨m, hm⟩ : ∃ m, ls[i] = m := ⟨_, rfl⟩
                have hm7 : m ≤ 7 := by rw [← hm]; exact HL7.out i hi'
                go_wp2
                go_loopw [21] (fun v wx => ∃ j : Nat, v = .int .i64 (j : Int) ∧ j ≤ m ∧ As (YS wd.heap.size Y Ay n2 cy (v2 : Int) ls wx) ∧ As (Kp [] wd wx)) (fun v _ => m - (intOf v).toNat)
                case atStart => exact ⟨0, rfl, by omega, HY, HK⟩
                case round =>
                  obtain ⟨j, rfl, hj, HY2, HK2⟩ := hrel
                  obtain ⟨z0, z1⟩ := HY2.out.1.cells
                  obtain ⟨gY, Ai, ci, rfl, hgY, hc, hrow⟩ := HY2.out.2 i hi'
                  rw [hm] at hc
                  have i3 : (0 : Int) ≤ (i : Int) := by omega
                  have i4 : (i : Int) < (n2 : Int) := by omega
                  have j0 : (0 : Int) ≤ (j : Int) := by omega
                  by_cases hjl : j < m
                  · obtain ⟨kY, rfl, hkY, hkg, hklo, ⟨x, hx⟩, hfz⟩ := hrow j (by omega)
                    have j1 : (j : Int) < (m : Int) := by omega
                    have HS := As.mk (HY2.out.set (j := j) hkY (fun g2 e => by cases e; exact hkg) (.int .i64 99))
                    have HK3 := As.mk (HK2.out.setCell (a := ⟨kY, j, none⟩) (.inr hklo) (.int .i64 99))
                    clear hrow
                    go_wp2
                    go_roundw
                    case rel => exact ⟨j + 1, by go_num, by omega, HS, HK3⟩
                    case measure => simp [intOf]; omega
                  · clear hrow
                    go_wp2
                    go_roundw
                    case rel => exact ⟨i + 1, by go_num, by omega, HY2, HK2⟩
                    case measure => simp [intOf]; omega
              · go_wp2
                go_roundw
                case rel => exact ⟨k + 1, g2, v2, s2, d2, by go_num, by omega, by omega, by omega, ⟨HJD.out.keep HK.out⟩⟩
                case measure => simp [intOf]; omega
      · obtain ⟨AX, cX, hbX, hriX, _⟩ := HJ.out.x.blk
        obtain ⟨n2, hn2⟩ : ∃ m, sh.length = m := ⟨_, rfl⟩
        rw [hn2] at hbX
        have HBX := As.mk hbX
        have HRX := As.mk (hriX.sub (S2 := []) (fun x hx => by simp at hx))
        have hok := HJ.out.okm
        have hn8 : n2 ≤ 8 := by rw [← hn2]; exact hok.2.1
        have HMP : As (∀ wX, Kp [] wr wX → Calls Try.prog 14 #[.pointer (some ⟨w.heap.size, 0, none⟩)] wX fun e w' => ∃ A c, e = .returned (.agg #[.int .i64 (ver : Int), .slice A n2 c]) ∧ OwnL [] w' wX.heap.size (.slice A n2 c) sh ∧ Kp [] wX w') := ⟨fun wX kX => by
          refine (man.map_any _ _ _ _ _ _ _ wX (HJ.out.keep kX).m hok).mono ?_
          rintro e w' ⟨A, c, rfl, o, k⟩
          rw [hn2] at o ⊢
          exact ⟨A, c, rfl, o, k⟩⟩
        have HMA : As (∀ wX A1 c1, Kp [] wr wX → Ri [] wX A1 sh → Calls Try.prog 20 #[.agg #[.int .i64 (ver : Int), .slice A1 n2 c1], .agg #[.int .i64 (ver : Int), .slice AX n2 cX]] wX fun e w' => e = .returned (.bool true) ∧ Kp [] wr w') := ⟨fun wX A1 c1 kX r1 => by
          refine (maps_any (ver : Int) A1 AX n2 c1 cX sh wX hn2 r1 (HRX.out.kp kX (by simp) (by simp)) (by omega) (fun x hx => by have := hok.2.2.1 x hx; omega)).mono ?_
          rintro e w' ⟨rfl, k⟩
          exact ⟨rfl, kX.trans k (by simp)⟩⟩
        have HKN : As (∀ wX, Kp [] wr wX → Calls Try.prog 8 #[] wX fun e w' => e = .returned (.bool true) ∧ Kp [] wr w') := ⟨fun wX kX => by
          refine (known_any wX).mono ?_
          rintro e w' ⟨rfl, k⟩
          exact ⟨rfl, kX.trans k (by simp)⟩⟩
        have KX : As (∀ wX, Kp [] wr wX → wX.cell? ⟨w.heap.size + 1, 0, none⟩ = some (.int .i64 (ver : Int)) ∧ wX.cell? ⟨w.heap.size + 1, 1, none⟩ = some (.slice AX n2 cX)) := ⟨fun wX kX => ⟨kX.cell (blk_cell HBX.out 0 rfl) (by simp), kX.cell (blk_cell HBX.out 1 rfl) (by simp)⟩⟩
        clear hbX hriX hok hn2
        have i0 : (0 : Int) ≤ (k : Int) := by omega
        by_cases hkn : k < n
        · have hk100 : k = 100 := by omega
          subst hk100
          have i1 : ((100 : Nat) : Int) < (n : Int) := by omega
          go_upto_region 45 with fail
          go_region_held3 (fun wX => wX.cell? ⟨w.heap.size + 1, 0, none⟩ = some (.int .i64 (ver : Int)) ∧ wX.cell? ⟨w.heap.size + 1, 1, none⟩ = some (.slice AX n2 cX))
            (exact KX.out _ (by first | exact Kp.refl [] _ | exact (Kp.refl [] _).drew | exact (Kp.refl [] _).drewN _ | exact kb.out | exact kb.out.drew | exact kb.out.drewN _ | exact kd.out | exact kd.out.drew | exact kd.out.drewN _ | exact kf.out)) (first
            | (go_at_call 14; refine (HMP.out _ (by first | exact Kp.refl [] _ | exact (Kp.refl [] _).drew | exact (Kp.refl [] _).drewN _ | exact kb.out | exact kb.out.drew | exact kb.out.drewN _ | exact kd.out | exact kd.out.drew | exact kd.out.drewN _ | exact kf.out)).mono ?_; rintro e wb ⟨Ab, cb, rfl, ob, k9⟩; have kb : As (Kp [] wr wb) := ⟨Kp.trans (by first | exact Kp.refl [] _ | exact (Kp.refl [] _).drew | exact (Kp.refl [] _).drewN _ | exact kb.out | exact kb.out.drew | exact kb.out.drewN _ | exact kd.out | exact kd.out.drew | exact kd.out.drewN _ | exact kf.out) k9 (by simp)⟩; have HMM := As.mk (fun wY (kY : Kp [] wb wY) => HMA.out wY Ab cb (kb.out.trans kY (by simp)) ((ob.ri (S2 := []) (by simp)).kp kY (by simp) (by simp))); clear k9 ob HMP)
            | (go_at_call 20; refine (HMM.out _ (by first | exact Kp.refl [] _ | exact (Kp.refl [] _).drew | exact (Kp.refl [] _).drewN _)).mono ?_; rintro e wd ⟨rfl, k9⟩; have kd := As.mk k9; clear k9 HMM)
            | (go_at_call 8; refine (HKN.out _ (by first | exact Kp.refl [] _ | exact (Kp.refl [] _).drew | exact (Kp.refl [] _).drewN _ | exact kb.out | exact kb.out.drew | exact kb.out.drewN _ | exact kd.out | exact kd.out.drew | exact kd.out.drewN _ | exact kf.out)).mono ?_; rintro e wf ⟨rfl, k9⟩; have kf := As.mk k9; clear k9 HKN))
          go_wp2
          go_ret
          exact ⟨rfl, (HJ.out.kp.trans kf.out (by simp)).below⟩
        · have i1 : ¬ (k : Int) < (n : Int) := by omega
          go_upto_region 45 with fail
          go_region_held3 (fun wX => wX.cell? ⟨w.heap.size + 1, 0, none⟩ = some (.int .i64 (ver : Int)) ∧ wX.cell? ⟨w.heap.size + 1, 1, none⟩ = some (.slice AX n2 cX))
            (exact KX.out _ (by first | exact Kp.refl [] _ | exact (Kp.refl [] _).drew | exact (Kp.refl [] _).drewN _ | exact kb.out | exact kb.out.drew | exact kb.out.drewN _ | exact kd.out | exact kd.out.drew | exact kd.out.drewN _ | exact kf.out)) (first
            | (go_at_call 14; refine (HMP.out _ (by first | exact Kp.refl [] _ | exact (Kp.refl [] _).drew | exact (Kp.refl [] _).drewN _ | exact kb.out | exact kb.out.drew | exact kb.out.drewN _ | exact kd.out | exact kd.out.drew | exact kd.out.drewN _ | exact kf.out)).mono ?_; rintro e wb ⟨Ab, cb, rfl, ob, k9⟩; have kb : As (Kp [] wr wb) := ⟨Kp.trans (by first | exact Kp.refl [] _ | exact (Kp.refl [] _).drew | exact (Kp.refl [] _).drewN _ | exact kb.out | exact kb.out.drew | exact kb.out.drewN _ | exact kd.out | exact kd.out.drew | exact kd.out.drewN _ | exact kf.out) k9 (by simp)⟩; have HMM := As.mk (fun wY (kY : Kp [] wb wY) => HMA.out wY Ab cb (kb.out.trans kY (by simp)) ((ob.ri (S2 := []) (by simp)).kp kY (by simp) (by simp))); clear k9 ob HMP)
            | (go_at_call 20; refine (HMM.out _ (by first | exact Kp.refl [] _ | exact (Kp.refl [] _).drew | exact (Kp.refl [] _).drewN _)).mono ?_; rintro e wd ⟨rfl, k9⟩; have kd := As.mk k9; clear k9 HMM)
            | (go_at_call 8; refine (HKN.out _ (by first | exact Kp.refl [] _ | exact (Kp.refl [] _).drew | exact (Kp.refl [] _).drewN _ | exact kb.out | exact kb.out.drew | exact kb.out.drewN _ | exact kd.out | exact kd.out.drew | exact kd.out.drewN _ | exact kf.out)).mono ?_; rintro e wf ⟨rfl, k9⟩; have kf := As.mk k9; clear k9 HKN))
          go_wp2
          go_ret
          exact ⟨rfl, (HJ.out.kp.trans kf.out (by simp)).below⟩
end Go.Proofs.Ytiabdeciadfiiaa.haystacklaw21
