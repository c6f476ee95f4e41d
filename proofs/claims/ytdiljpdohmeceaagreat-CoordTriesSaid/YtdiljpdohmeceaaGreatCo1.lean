/- coord: (*Coord).Tick where a job begins, or there is none. -/
import Derived.Test.YtdiljpdohmeceaaGreatCoZ
import Derived.Deep.CutRange
import Derived.Deep.CutBlock
namespace Go.Proofs.YtdiljpdohmeceaaGreat.co
open Go.RowKit H O opk frame wir

theorem Que.form {w : World} {v : Value} {g : Option Nat} {ps : List Nat} (h : Que w v g ps) : ∃ A c, v = .slice A ps.length c := by
  rcases h with ⟨_, rfl, rfl⟩ | ⟨b, o, c, cur, _, rfl, _⟩
  · exact ⟨none, 0, rfl⟩
  · exact ⟨_, c, rfl⟩

set_option maxHeartbeats 4000000 in
set_option maxRecDepth 100000 in
theorem tick_no (U : List Nat) (w : World) (L : Lay) (cf : Cfg) (s : Cs) (hC : CoSt U w L cf s) (hj : s.jobs = []) : Calls Tryz.prog 11 #[.pointer (some ⟨L.b, 0, none⟩)] w (TickPost U L cf (tick cf s) w) := by
  have HC := As.mk hC
  obtain ⟨κ, VS, VW, VJ, VD, MV, AV, l, h⟩ := hC
  obtain ⟨A, c, hv⟩ := h.jq.form
  have hl : L.js.length = 0 := by rw [h.jl, hj]; rfl
  rw [hl] at hv
  subst hv
  have b5 : w.cell? ⟨L.b, 5, none⟩ = some (.slice A 0 c) := blk_cell h.hd 5 rfl
  have HJ := As.mk hj
  clear h hl hj
  go_enter Tryz.func11, Tryz.ntmps11
  go_wp2
  go_ret
  rw [tick_none HJ.out]
  exact ⟨L, _, rfl, HC.out, OutI.nil _ _, Grew.refl _ _, Kp.refl _ _⟩

set_option maxHeartbeats 8000000 in
set_option maxRecDepth 100000 in
theorem tick_begin (U : List Nat) (w : World) (L : Lay) (cf : Cfg) (s : Cs) (j : Job) (r : List Job) (hC : CoSt U w L cf s) (ok : CsOk cf s) (hj : s.jobs = j :: r) (ha : s.asks = []) (hc : s.ctx + 8 ≤ 1099511627776) (he : s.ended + 1 ≤ 1099511627776) :
    Calls Tryz.prog 11 #[.pointer (some ⟨L.b, 0, none⟩)] w (TickPost U L cf (tick cf s) w) := by
  have hC0 := hC
  obtain ⟨κ, VS, VW, VJ, VD, MV, AV, l, h⟩ := hC
  have hjl := h.jl
  rw [hj] at hjl
  obtain ⟨p0, ps, hjs⟩ : ∃ p ps, L.js = p :: ps := by
    cases e : L.js with
    | nil => rw [e] at hjl; simp at hjl
    | cons p ps => exact ⟨p, ps, rfl⟩
  obtain ⟨qb, qo, qc, rfl, q0⟩ := h.jq.cell (i := 0) (p := p0) (by rw [hjs]; rfl)
  obtain ⟨m, hm⟩ : ∃ m, L.js.length = m + 1 := ⟨ps.length, by rw [hjs]; rfl⟩
  have hd := h.hd
  rw [hm] at hd
  have b5 : w.cell? ⟨L.b, 5, none⟩ = some (.slice (some ⟨qb, qo, none⟩) (m + 1) qc) := blk_cell hd 5 rfl
  rw [Nat.add_zero] at q0
  unfold ptr at q0
  obtain ⟨tv, dv, hp, _, _⟩ := h.ja 0 j p0 (by rw [hj]; rfl) (by rw [hjs]; rfl)
  rw [if_pos rfl, if_pos rfl] at hp
  have p13 : w.cell? ⟨p0, 13, none⟩ = some (.slice none 0 0) := by rw [← (h.no ha).1]; exact blk_cell hp 13 rfl
  have hcl := ok.cfg.len
  have jok := ok.jobs j (by rw [hj]; simp)
  obtain ⟨n, hn⟩ : ∃ n, (jshards cf j).length = n := ⟨_, rfl⟩
  have hn8 := jshards_len (cf := cf) (j := j) hcl.1
  rw [hn] at hn8
  obtain ⟨A0, hA0⟩ : ∃ A, mkAsks cf s.ended j 0 s.ctx (jshards cf j) = A := ⟨_, rfl⟩
  obtain ⟨A1, hA1⟩ : ∃ A, mkAsks cf s.ended j 1 s.ctx (jshards cf j) = A := ⟨_, rfl⟩
  have hl0 : A0.length = n := by rw [← hA0, mkAsks_len, hn]
  have hl1 : A1.length = n := by rw [← hA1, mkAsks_len, hn]
  have HTK := As.mk (tick_new (cf := cf) hj ha)
  rw [hn, hA1] at HTK
  have HBG : As (Calls Tryz.prog 30 #[.pointer (some ⟨L.b, 0, none⟩), .pointer (some ⟨p0, 0, none⟩)] w fun e w1 => e = .returned (.tuple #[]) ∧ ∃ (ga cA : Nat), w1.cell? ⟨p0, 13, none⟩ = some (.slice (some ⟨ga, 0, none⟩) n cA) ∧
      As (∃ L', L'.ga = some ga ∧ L'.b = L.b ∧ CoSt U w1 L' cf { s with asks := mix A1 A0 0, ctx := s.ctx + n } ∧ Grew w L L' ∧ L'.js = L.js ∧ Kp L.all w w1)) := ⟨by
    refine (begins_any U w L cf s j r p0 ps hC0 ok hj hjs ha hc he).mono ?_
    rintro e w1 ⟨rfl, L', hc', hg, hjs', hk⟩
    rw [hn, hA0] at hc'
    obtain ⟨κ', VS', VW', VJ', VD', MV', AV', l', h'⟩ := id hc'
    have hal := h'.al
    have hal : L'.az.length = n := by rw [hal]; exact hl0
    have ho := h'.aq.1
    rw [hal] at ho
    obtain ⟨g, cA, rfl, _⟩ := own_form ho (by omega)
    have e2 := h'.aq.2
    obtain ⟨tv', dv', hp', _, _⟩ := h'.ja 0 j p0 (show s.jobs[0]? = some j by rw [hj]; rfl) (by rw [hjs', hjs]; rfl)
    rw [if_pos rfl, if_pos rfl] at hp'
    refine ⟨rfl, g, cA, blk_cell hp' 13 rfl, ⟨L', ?_, hg.1, by rw [mix_zero]; exact hc', hg, hjs', hk⟩⟩
    simpa [Value.ownBlock] using e2.symm⟩
  have HOK : As (∀ k, CsOk cf { s with asks := mix A1 A0 k, ctx := s.ctx + n }) := ⟨fun k => by
    refine ok.asksTo (fun a ha2 => ?_) (by rw [mix_len (by omega)]; omega) (by rw [hj]; simp)
    have ht := ok.cfg.tries
    rcases mix_mem ha2 with e | e
    · rw [← hA1] at e
      rw [← hn]
      exact mkAsks_ok jok (by omega) (by omega) a e
    · rw [← hA0] at e
      rw [← hn]
      exact mkAsks_ok jok (by omega) (by omega) a e⟩
  have HGET : As (∀ k, k < n → ∃ a0, A0[k]? = some a0 ∧ A1[k]? = some { a0 with waited := 0, tried := a0.tried + 1, hinted := false } ∧ a0.tried < cf.tries) := ⟨fun k hk => by
    have hk' : k < (jshards cf j).length := by omega
    have ht := ok.cfg.tries
    refine ⟨newAsk cf s.ended j 0 (s.ctx + k + 1) (jshards cf j)[k], by rw [← hA0]; exact mkAsks_get .., by rw [← hA1]; exact mkAsks_get .., by show 0 < cf.tries; omega⟩⟩
  have HL := As.mk (And.intro hl0 hl1)
  have hn9 : n ≤ 8 := by omega
  clear h hd hp hm hjl hC0 ok hj ha hc he hcl jok hn hA0 hA1 hl0 hl1
  go_enter Tryz.func11, Tryz.ntmps11
  go_wp2_with (go_at_call 30; refine HBG.out.mono ?_; rintro e w1 ⟨rfl, ga, cA, c13, HB1⟩; clear HBG)
  go_loopw [4, 39] (fun v i wr => ∃ (k : Nat) (L' : Lay), i = .int .i64 (k : Int) ∧ k ≤ n ∧ As (L'.ga = some ga ∧ L'.b = L.b ∧ Grew w L L' ∧ Kp L.all w wr ∧ ∀ g, v.ownBlock = some g → w.heap.size ≤ g) ∧ As (CoSt (v.ownBlock.toList ++ U) wr L' cf { s with asks := mix A1 A0 k, ctx := s.ctx + n }) ∧ As (OutI (L'.all ++ U) wr v ((A1.take k).map (msgOf cf s.whom)))) (fun _ i _ => n - (intOf i).toNat)
  case atStart =>
    obtain ⟨L', h1, h2, h3, h4, h5, h6⟩ := HB1.out
    exact ⟨0, L', rfl, by omega, ⟨h1, h2, h4, h6, by simp [Value.ownBlock]⟩, ⟨by simpa [Value.ownBlock] using h3⟩, ⟨OutI.nil _ _⟩⟩
  case round =>
    obtain ⟨k, L', rfl, hk, HG, HS, HO⟩ := hrel
    by_cases hlt : k < n
    · obtain ⟨a0, ha0, ha1, hlt3⟩ := HGET.out k hlt
      have hl0 := HL.out.1
      have hl1 := HL.out.2
      obtain ⟨p, hp⟩ : ∃ p, L'.az[k]? = some p := by
        obtain ⟨κ', VS', VW', VJ', VD', MV', AV', l', h'⟩ := HS.out
        have h1 := h'.al
        have h1 : L'.az.length = (mix A1 A0 k).length := h1
        rw [mix_len (by omega)] at h1
        exact ⟨_, List.getElem?_eq_getElem (by omega)⟩
      have c0 := HS.out.askPtr HG.out.1 hp
      unfold ptr at c0
      have HTR := tried_any (u4.ownBlock.toList ++ U) wr L' cf { s with asks := mix A1 A0 k, ctx := s.ctx + n } k p a0 HS.out (HOK.out k) hp (mix_get (by omega) ha0) hlt3
      rw [HG.out.2.1] at HTR
      have HTR := As.mk HTR
      obtain ⟨vs, ho, hv, hms⟩ := HO.out
      rw [List.length_map, List.length_take, Nat.min_eq_left (by omega)] at ho
      have hlt4 := HS.out.lt
      obtain ⟨fl, hfl⟩ : ∃ m, a0.frame.length = m := ⟨_, rfl⟩
      obtain ⟨dd, hdd⟩ : ∃ m, dest cf s.whom a0.shard = m := ⟨_, rfl⟩
      have HTR2 : As (Calls Tryz.prog 31 #[.pointer (some ⟨L.b, 0, none⟩), .pointer (some ⟨p, 0, none⟩)] wr fun e w2 => ∃ A2 c2, e = .returned (.agg #[.int .i64 (cf.id : Int), .int .i64 dd, .slice A2 fl c2]) ∧
          As ((w2.alloc (.cells #[.int .i64 (cf.id : Int), .int .i64 dd, .slice A2 fl c2] 44)).ownsRow 0 44 3 u4 k vs) ∧
          As (∀ v3 w3, w3.ownsRow 0 44 3 v3 (k + 1) (vs ++ [.int .i64 (cf.id : Int), .int .i64 dd, .slice A2 fl c2]) → Kp u4.ownBlock.toList (w2.alloc (.cells #[.int .i64 (cf.id : Int), .int .i64 dd, .slice A2 fl c2] 44)) w3 → At (w2.heap.size + 1) u4.ownBlock v3.ownBlock →
            As (L'.ga = some ga ∧ L'.b = L.b ∧ Grew w L L' ∧ Kp L.all w w3 ∧ ∀ g, v3.ownBlock = some g → w.heap.size ≤ g) ∧ As (CoSt (v3.ownBlock.toList ++ U) w3 L' cf { s with asks := mix A1 A0 (k + 1), ctx := s.ctx + n }) ∧ As (OutI (L'.all ++ U) w3 v3 ((A1.take (k + 1)).map (msgOf cf s.whom))))) := ⟨by
        refine HTR.out.mono ?_
        rintro e w2 ⟨dv, rfl, hd, hc, hk2⟩
        obtain ⟨A2, c2, rfl, hd2⟩ := id hd
        have hpm : p ∈ L'.all := Lay.mem.2 (by simp [List.mem_of_getElem? hp])
        have hV : ∀ x ∈ [p], x ∈ L'.all ++ U ∨ wr.heap.size ≤ x := fun x hx => by
          simp only [List.mem_singleton] at hx
          subst hx
          exact .inl (List.mem_append.2 (.inl hpm))
        have hu : ∀ g, u4.ownBlock = some g → g ∉ [p] := fun g e hm => by
          simp only [List.mem_singleton] at hm
          subst hm
          exact hv _ e (List.mem_append.2 (.inl hpm))
        have ho2 := hk2.own ho hu
        have hfd : dest cf ({ s with asks := mix A1 A0 k, ctx := s.ctx + n } : Cs).whom a0.shard = dd := hdd
        rw [hfd, hfl]
        refine ⟨A2, c2, rfl, ⟨ho2.alloc _⟩, ⟨fun v3 w3 o3 k3 a3 => ?_⟩⟩
        have hs2 := hk2.size
        have hs0 := HG.out.2.2.2.1.size
        have hu0 := HG.out.2.2.2.2
        have k13 : Kp u4.ownBlock.toList w2 w3 := ((Kp.refl u4.ownBlock.toList w2).alloc _).trans k3 (fun x hx => .inl hx)
        have hu3 : ∀ g, v3.ownBlock = some g → u4.ownBlock = some g ∨ w2.heap.size ≤ g ∧ g < w3.heap.size := by
          intro g e
          have h9 := own_lt o3 g e
          rcases a3 with e2 | ⟨y, e2, hy⟩
          · rw [e2] at e; exact .inl e
          · rw [e2] at e; cases e; exact .inr ⟨by omega, h9⟩
        have hlt5 : ∀ x ∈ L'.all ++ U, x < w2.heap.size := fun x hx => by
          have := hlt4 x (by simp only [List.mem_append] at hx ⊢; rcases hx with e | e; exact .inl e; exact .inr (.inr e))
          omega
        refine ⟨⟨HG.out.1, HG.out.2.1, HG.out.2.2.1, (HG.out.2.2.2.1.trans hk2 (fun x hx => ?_)).trans k13 (fun x hx => .inr (hu0 x (by simpa using hx))), fun g e => ?_⟩, ⟨?_⟩, ⟨?_⟩⟩
        · simp only [List.mem_singleton] at hx
          subst hx
          exact HG.out.2.2.1.2 _ hpm
        · rcases hu3 g e with e2 | e2
          · exact hu0 g e2
          · omega
        · have h9 := hc.kp (U2 := v3.ownBlock.toList ++ U) k13 (fun x hx => .inl (List.mem_append.2 (.inl hx))) (fun x hx => by
            rcases List.mem_append.1 hx with e | e
            · rcases hu3 x (by simpa using e) with e2 | e2
              · exact .inl (List.mem_append.2 (.inl (by simp [e2])))
              · exact .inr e2
            · exact .inl (List.mem_append.2 (.inr e)))
          rw [← mix_set (by omega) ha1]
          exact h9
        · have e1 : (A1.take (k + 1)).map (msgOf cf s.whom) = (A1.take k).map (msgOf cf s.whom) ++ [⟨cf.id, dd, a0.frame⟩] := by
            obtain ⟨hk1, hv1⟩ := List.getElem?_eq_some_iff.1 ha1
            rw [List.take_succ_eq_append_getElem hk1, List.map_append, List.map_singleton, hv1, ← hdd]
            rfl
          rw [e1]
          refine OutI.snoc (m := ⟨cf.id, dd, a0.frame⟩) (by rw [List.length_map, List.length_take, Nat.min_eq_left (by omega)]) hlt5 hv (hms.kp hk2 (fun x hx => (hV x hx).imp (fun e => ?_) id) (fun x hx => .inl hx)) ?_ o3 k3 a3
          · simp only [List.mem_append] at e ⊢
            rcases e with e | e
            · exact .inr (.inl e)
            · exact .inr (.inr e)
          · have hd' := hd
            simp only [hfl] at hd'
            refine hd'.kp (Kp.refl [] w2) (by simp) (fun x hx => .inl ?_)
            simp only [List.mem_append] at hx ⊢
            rcases hx with e | e | e
            · exact .inr (.inl e)
            · exact .inl e
            · exact .inr (.inr e)⟩
      clear HTR ho hms hlt4 hfl hdd
      have i0 : (0 : Int) ≤ (k : Int) := by omega
      have i1 : (k : Int) < (n : Int) := by omega
      clear ha0 ha1 hl0 hl1 hp
      go_wp2_with (first
        | (go_at_call 31; refine HTR2.out.mono ?_; rintro e w2 ⟨A2, c2, rfl, HOW, HFI⟩)
        | (at_builtin; refine wpList_app rfl (.tmp 43) (.tmp 47) 31 rfl 44 (.agg #[.int .i64 0, .int .i64 0, .slice none 0 0]) 3 40 Tryz.underlying31 info_msg rfl (by decide) u4 k vs rfl HOW.out (some ⟨w2.heap.size, 0, none⟩) 1 1 [.int .i64 (cf.id : Int), .int .i64 dd, .slice A2 fl c2] rfl rfl (rd_new w2 _ _) (by simp) (by simp [Value.oneCell']) (by omega) (by omega) ?_; intro v3 w3 o3 k3 a3 _; obtain ⟨H1, H2, H3⟩ := HFI.out v3 w3 o3 k3 (by simpa using a3); clear o3 k3 a3))
      go_roundw
      case rel => exact ⟨k + 1, L', by go_num, by omega, H1, H2, H3⟩
      case measure => simp [intOf]; omega
    · obtain rfl : k = n := by omega
      go_wp2
      go_ret
      have hl0 := HL.out.1
      have hl1 := HL.out.2
      rw [HTK.out]
      have hs := HS.out
      have e1 : mix A1 A0 k = A1 := by rw [← hl1]; exact mix_all (by omega)
      have e2 : A1.take k = A1 := List.take_of_length_le (by omega)
      rw [e1] at hs
      rw [e2] at HO
      exact ⟨L', _, rfl, hs.kp (Kp.refl [] wr) (by simp) (fun x hx => .inl (List.mem_append.2 (.inr hx))), HO.out, HG.out.2.2.1, HG.out.2.2.2.1⟩
end Go.Proofs.YtdiljpdohmeceaaGreat.co
