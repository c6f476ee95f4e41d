/- The law CoordTries: the walk. -/
import Derived.Test.YtdiljpdohmeceaaGreatCpD
import Derived.Test.YtdiljpdohmeceaaGreatCpB
namespace Go.Proofs.YtdiljpdohmeceaaGreat.co
open Go.RowKit H O opk frame wir
open cr (RLay RsSt RNewJ RGrew)

/-- inside the law's loop -/
structure CtI (w : World) (cf : Cfg) (key : ByteArray) (P g b k q : Nat) (s : Cs) (L : Lay) (wr : World) : Prop where
  tr : TrAt cf key (shardOf (kb key) 2) k q s
  ok : CsOk cf s
  wt : Wt cf s.asks
  st : CoSt [P, g] wr L cf s
  hb : L.b = b
  lo : ∀ x ∈ L.all, w.heap.size ≤ x
  kp : Kp [] w wr
  rd : RdS L.all wr (some ⟨g, 0, none⟩) (iv .i64 (nodesOf cf (shardOf (kb key) 2)))
  pc : wr.cell? ⟨P, 0, none⟩ = some (.pointer (some ⟨b, 0, none⟩))
theorem CtI.next {w wr w4 : World} {cf : Cfg} {key : ByteArray} {P g b k q q2 : Nat} {s s2 : Cs} {L L2 : Lay} (h : CtI w cf key P g b k q s L wr) (hs : s2 = (tick cf s).1) (ht : TrAt cf key (shardOf (kb key) 2) (k + 1) q2 s2) (hc : CoSt [P, g] w4 L2 cf s2) (hg : Grew wr L L2) (hk : Kp L.all wr w4) : CtI w cf key P g b (k + 1) q2 s2 L2 w4 := by
  subst hs
  have hi := tick_inv h.ok h.wt
  have hz := h.kp.size
  refine ⟨ht, hi.1, hi.2, hc, hg.1.trans h.hb, fun x hx => (hg.2 x hx).elim (fun e => h.lo x e) (fun e => by omega), h.kp.trans hk (fun x hx => .inr (h.lo x hx)), h.rd.kp2 hk (fun x hx => .inl hx) (fun x hx => (hg.2 x hx)), hk.cell h.pc (h.st.apart P (by simp))⟩
theorem CtI.kp0 {w wr w5 : World} {cf : Cfg} {key : ByteArray} {P g b k q : Nat} {s : Cs} {L : Lay} (h : CtI w cf key P g b k q s L wr) (k5 : Kp [] wr w5) : CtI w cf key P g b k q s L w5 :=
  ⟨h.tr, h.ok, h.wt, h.st.kp k5 (by simp) (fun x hx => .inl hx), h.hb, h.lo, h.kp.trans k5 (by simp), h.rd.kp2 k5 (by simp) (fun x hx => .inl hx), k5.cell h.pc (by simp)⟩
/-- what the law needs of a Tick -/
theorem CtI.tick {w wr : World} {cf : Cfg} {key : ByteArray} {P g b k q : Nat} {s : Cs} {L : Lay} (h : CtI w cf key P g b k q s L wr) (hl : cf.shards.length = 2) (hp : 1 ≤ cf.pat) (ht : 1 ≤ cf.tries) (hk : k < cf.tries * cf.pat + 1) :
    Calls Tryz.prog 11 #[.pointer (some ⟨b, 0, none⟩)] wr fun e w4 => ∃ s2 L2, (k % cf.pat = 0 ∧ q < cf.tries ∧ (∃ g2 c2, e = .returned (.slice (some ⟨g2, 0, none⟩) 1 c2) ∧ w4.cell? ⟨g2, 1, none⟩ = some (.int .i64 ((nodesOf cf (shardOf (kb key) 2)).getD (q % (nodesOf cf (shardOf (kb key) 2)).length) 0))) ∧ CtI w cf key P g b (k + 1) (q + 1) s2 L2 w4) ∨
      (¬ (k % cf.pat = 0 ∧ q < cf.tries) ∧ (∃ A2 c2, e = .returned (.slice A2 0 c2)) ∧ CtI w cf key P g b (k + 1) q s2 L2 w4) := by
  obtain ⟨n1, n2, n3, n4⟩ := h.tr.next hl hp ht hk
  have hc := tick_all [P, g] wr L cf s h.st h.ok h.wt (by omega) (by omega) (by rw [n3]; simp)
  rw [h.hb] at hc
  refine hc.mono ?_
  rintro e w4 ⟨L2, v, rfl, q1, q2, q3, q4⟩
  rcases n4 with ⟨m1, m2, m3, fr, m4⟩ | ⟨m1, m3, m4⟩
  · rw [m4] at q2
    obtain ⟨g2, c2, rfl, _, _⟩ := q2.pos (by simp)
    obtain ⟨_, _, c1, _⟩ := q2.at (i := 0) rfl
    exact ⟨_, L2, .inl ⟨m1, m2, ⟨g2, c2, rfl, c1⟩, h.next rfl m3 q1 q3 q4⟩⟩
  · rw [m4] at q2
    obtain ⟨A2, c2, rfl, _⟩ := q2.form
    exact ⟨_, L2, .inr ⟨m1, ⟨A2, c2, rfl⟩, h.next rfl m3 q1 q3 q4⟩⟩
theorem two_rd (w : World) (xs ys : List Int) (n m : Nat) (hn : xs.length = n) (hm : ys.length = m) (t u : TypeId) :
    Rd (((w.alloc (.cells (iv .i64 xs).toArray t)).alloc (.cells (iv .i64 ys).toArray t)).alloc (.cells #[.slice (some ⟨w.heap.size, 0, none⟩) n n, .slice (some ⟨w.heap.size + 1, 0, none⟩) m m] u)) (some ⟨w.heap.size, 0, none⟩) (iv .i64 xs) ∧
    Rd (((w.alloc (.cells (iv .i64 xs).toArray t)).alloc (.cells (iv .i64 ys).toArray t)).alloc (.cells #[.slice (some ⟨w.heap.size, 0, none⟩) n n, .slice (some ⟨w.heap.size + 1, 0, none⟩) m m] u)) (some ⟨w.heap.size + 1, 0, none⟩) (iv .i64 ys) := by
  subst hn hm
  obtain ⟨w1, h1⟩ : ∃ w1, w1 = w.alloc (.cells (iv .i64 xs).toArray t) := ⟨_, rfl⟩
  have s1 : w1.heap.size = w.heap.size + 1 := by rw [h1]; simp
  rw [← h1]
  refine ⟨?_, ?_⟩
  · have := rd_new w (iv .i64 xs) t
    rw [← h1] at this
    exact (((Kp.refl [] w1).alloc _).alloc _).rd_new this (by simp)
  · have := rd_new w1 (iv .i64 ys) t
    rw [s1] at this
    exact ((Kp.refl [] _).alloc _).rd_new this (by simp)

set_option maxHeartbeats 4000000 in
set_option maxRecDepth 100000 in
theorem ctry_bad (key : ByteArray) (p t : Int) (w : World) (h : (key.size : Int) < 1 ∨ 64 < (key.size : Int) ∨ p < 1 ∨ 20 < p ∨ t < 1 ∨ 20 < t) :
    Calls Tryz.prog 6 #[.string key, .int .i64 p, .int .i64 t] w fun e w' => e = .returned (.bool true) ∧ Below w.heap.size w w' := by
  obtain ⟨n, hn⟩ : ∃ n, key.size = n := ⟨_, rfl⟩
  rw [hn] at h
  have HK := As.mk (known_any w)
  by_cases h1 : (n : Int) < 1
  · clear h
    go_enter Tryz.func6, Tryz.ntmps6
    go_wp2_with (go_at_call 7; refine HK.out.mono ?_; rintro e w1 ⟨rfl, k1⟩; have HK1 := As.mk k1; clear HK k1)
    go_ret
    exact ⟨rfl, HK1.out.below⟩
  by_cases h2 : 64 < (n : Int)
  · clear h
    go_enter Tryz.func6, Tryz.ntmps6
    go_wp2_with (go_at_call 7; refine HK.out.mono ?_; rintro e w1 ⟨rfl, k1⟩; have HK1 := As.mk k1; clear HK k1)
    go_ret
    exact ⟨rfl, HK1.out.below⟩
  by_cases h3 : p < 1
  · clear h
    go_enter Tryz.func6, Tryz.ntmps6
    go_wp2_with (go_at_call 7; refine HK.out.mono ?_; rintro e w1 ⟨rfl, k1⟩; have HK1 := As.mk k1; clear HK k1)
    go_ret
    exact ⟨rfl, HK1.out.below⟩
  by_cases h4 : 20 < p
  · clear h
    go_enter Tryz.func6, Tryz.ntmps6
    go_wp2_with (go_at_call 7; refine HK.out.mono ?_; rintro e w1 ⟨rfl, k1⟩; have HK1 := As.mk k1; clear HK k1)
    go_ret
    exact ⟨rfl, HK1.out.below⟩
  by_cases h5 : t < 1
  · clear h
    go_enter Tryz.func6, Tryz.ntmps6
    go_wp2_with (go_at_call 7; refine HK.out.mono ?_; rintro e w1 ⟨rfl, k1⟩; have HK1 := As.mk k1; clear HK k1)
    go_ret
    exact ⟨rfl, HK1.out.below⟩
  have h6 : 20 < t := by omega
  clear h
  go_enter Tryz.func6, Tryz.ntmps6
  go_wp2_with (go_at_call 7; refine HK.out.mono ?_; rintro e w1 ⟨rfl, k1⟩; have HK1 := As.mk k1; clear HK k1)
  go_ret
  exact ⟨rfl, HK1.out.below⟩

set_option maxHeartbeats 8000000 in
set_option maxRecDepth 100000 in
theorem ctry_good (key : ByteArray) (pat tr : Nat) (w : World) (hk : 1 ≤ key.size ∧ key.size ≤ 64) (hp : 1 ≤ pat ∧ pat ≤ 20) (ht : 1 ≤ tr ∧ tr ≤ 20) :
    Calls Tryz.prog 6 #[.string key, .int .i64 (pat : Int), .int .i64 (tr : Int)] w fun e w' => e = .returned (.bool true) ∧ Below w.heap.size w w' := by
  have HSX := As.mk (start_good 8 pat tr w (by decide) (by omega) (by omega))
  have HDX : As (∀ w1 P L M, PairP [] w1 P L M (lCfg 8 pat tr) (newCs 2) (newCs 2) (.slice none 0 0) → Calls Tryz.prog 20 #[.pointer (some ⟨P, 0, none⟩), .agg #[.int .i64 3, .int .i64 0, .int .i64 0, .int .i64 0, .int .i64 0, .int .i64 0, .string key, .slice none 0 0, .slice none 0 0]] w1 fun e w' => e = .returned (.bool true) ∧
      As (∃ L' M', PairP [] w' P L' M' (lCfg 8 pat tr) (gives (newCs 2) (jGet key)) (gives (newCs 2) (jGet key)) (.slice none 0 0) ∧ Grew w1 L L' ∧ RGrew w1 M M' ∧ Kp (L.all ++ M.all) w1 w')) := ⟨fun w1 P L M h => (does_get [] w1 P L M _ _ _ key h (newCs_ok (cf := lCfg 8 pat tr) (lCfg_ok (by decide) (by omega) (by omega))) (by decide) hk).mono (fun e w' h => ⟨h.1, ⟨h.2⟩⟩)⟩
  have HOK := As.mk ((newCs_ok (cf := lCfg 8 pat tr) (lCfg_ok (by decide) (by omega) (by omega))).more (j := jGet key) ⟨by show 1 ≤ 3 ∧ 3 ≤ 4; omega, fun _ => hk, by show 0 ≤ 4096 ∧ _; exact ⟨by omega, fun x hx => by simp [jGet] at hx⟩⟩)
  obtain ⟨sh, hsh⟩ : ∃ sh, shardOf (kb key) 2 = sh := ⟨_, rfl⟩
  have hs2 : sh < 2 := by rw [← hsh]; exact shardOf_lt _ (by decide)
  have HSH : As (∀ wX, Calls Tryz.prog 23 #[.string key, .int .i64 2] wX fun e w' => e = .returned (.tuple #[.int .i64 (sh : Int), .int .i64 0]) ∧ w' = wX) := ⟨fun wX => by rw [← hsh]; exact cr.shard_any key 2 wX (by omega) (by decide) (by decide)⟩
  have HSHE := As.mk hsh
  obtain ⟨n, hn⟩ : ∃ n, key.size = n := ⟨_, rfl⟩
  rw [hn] at hk
  have g1 : ¬ (n : Int) < 1 := by omega
  have g2 : ¬ (64 : Int) < (n : Int) := by omega
  have g3 : ¬ (pat : Int) < 1 := by omega
  have g4 : ¬ (20 : Int) < (pat : Int) := by omega
  have g5 : ¬ (tr : Int) < 1 := by omega
  have g6 : ¬ (20 : Int) < (tr : Int) := by omega
  clear hk hsh
  go_enter Tryz.func6, Tryz.ntmps6
  go_upto_region 7 with (first
    | (go_at_call 8; refine HSX.out.mono ?_; rintro e w1 ⟨P, L, M, rfl, HP, HLO⟩; have HD := As.mk (HDX.out w1 P L M (HP.out [] (by simp))); have pc1 := blk_cell (HP.out [] (by simp)).hd 0 rfl; clear HSX HDX)
    | (go_at_call 20; refine HD.out.mono ?_; rintro e wd ⟨rfl, HP2⟩; clear HD pc1)
    | (go_at_call 23; refine (HSH.out _).mono ?_; rintro e w2 ⟨rfl, rfl⟩; clear HSH)
    | fail)
  obtain ⟨L1, M1, hq1, hq2, hq3, hq4⟩ := HP2.out
  have HQ := As.mk (show PairP [] w2 P L1 M1 (lCfg 8 pat tr) (gives (newCs 2) (jGet key)) (gives (newCs 2) (jGet key)) (.slice none 0 0) ∧ (∀ x ∈ P :: L1.all, w.heap.size ≤ x) ∧ Kp [] w w2 from ⟨hq1, fun x hx => by
    have hz := HLO.out.2.size
    rcases List.mem_cons.1 hx with e | e
    · exact HLO.out.1 x (by simp [e])
    · rcases hq2.2 x e with e2 | e2
      · exact HLO.out.1 x (by simp [e2])
      · omega, HLO.out.2.trans hq4 (fun x hx => .inr (HLO.out.1 x (List.mem_cons_of_mem _ hx)))⟩)
  clear hq1 hq2 hq3 hq4 HP2 HP HLO
  go_cut [11] from 68 to 73 (fun v11 wx => ∃ (nj g : Nat) (w4 : World), w4 = wx ∧ v11 = .slice (some ⟨g, 0, none⟩) nj nj ∧ 1 ≤ nj ∧ nj ≤ 3 ∧ As ((nodesOf (lCfg 8 pat tr) sh).length = nj ∧ Rd w4 (some ⟨g, 0, none⟩) (iv .i64 (nodesOf (lCfg 8 pat tr) sh)) ∧ w2.heap.size ≤ g ∧ g < w4.heap.size ∧ Kp [] w2 w4))
  case first =>
    have k3 : Kp [] w2 (((w2.alloc (.cells #[.int .i64 0, .int .i64 1, .int .i64 2] 3)).alloc (.cells #[.int .i64 1, .int .i64 3] 3)).alloc (.cells #[.slice (some ⟨w2.heap.size, 0, none⟩) 3 3, .slice (some ⟨w2.heap.size + 1, 0, none⟩) 2 2] 53)) := (((Kp.refl [] w2).alloc _).alloc _).alloc _
    have HT := As.mk (two_rd w2 [0, 1, 2] [1, 3] 3 2 rfl rfl 3 53)
    have K3 := As.mk k3
    clear k3 HQ
    rcases (by omega : sh = 0 ∨ sh = 1) with rfl | rfl
    · go_wp2_with fail
      go_meet
      exact ⟨3, w2.heap.size, _, rfl, rfl, by omega, by omega, ⟨rfl, HT.out.1, Nat.le_refl _, by simp; omega, K3.out⟩⟩
    · go_wp2_with fail
      go_meet
      exact ⟨2, w2.heap.size + 1, _, rfl, rfl, by omega, by omega, ⟨rfl, HT.out.2, by omega, by simp, K3.out⟩⟩
  case rest =>
    obtain ⟨nj, g, w4, rfl, rfl, j1, j3, HG⟩ := hcut
    obtain ⟨T, hT⟩ : ∃ T, tr * pat = T := ⟨_, rfl⟩
    have hT4 : T ≤ 400 := by rw [← hT]; exact Nat.mul_le_mul ht.2 hp.2
    have m1 : IntKind.i64.wrap ((pat : Int) * (tr : Int)) = (T : Int) := by
      rw [show (pat : Int) * (tr : Int) = (T : Int) by rw [← hT, Int.mul_comm]; simp, IntKind.wrap_i64]; omega
    obtain ⟨T1, hT1⟩ : ∃ T1, T1 = T + 1 := ⟨_, rfl⟩
    have m2 : IntKind.i64.wrap (1 + (T : Int)) = (T1 : Int) := by rw [IntKind.wrap_i64]; omega
    have p0 : ¬ (pat : Int) = 0 := by omega
    have n0 : ¬ (nj : Int) = 0 := by omega
    have hT9 : T1 ≤ 401 := by omega
    have HTT := As.mk (show tr * pat + 1 = T1 by rw [hT, hT1])
    have HI0 : As (CtI w (lCfg 8 pat tr) key P g L1.b 0 0 (gives (newCs 2) (jGet key)) L1 w4) := ⟨by
      obtain ⟨q1, q2, q3⟩ := HQ.out
      obtain ⟨r1, r2, r3, r4, r5⟩ := HG.out
      have hP2 := lt_of_block q1.hd
      have hs2 := r5.size
      refine ⟨TrAt.zero, ?_, fun a ha => by simp [gives, newCs] at ha, ?_, rfl, fun x hx => q2 x (List.mem_cons_of_mem _ hx), q3.trans r5 (by simp), fun j v hv => ?_, r5.cell (blk_cell q1.hd 0 rfl) (by simp)⟩
      · exact HOK.out
      · refine q1.c.kp r5 (by simp) (fun x hx => ?_)
        simp only [List.mem_cons, List.not_mem_nil, or_false] at hx
        rcases hx with e | e
        · exact .inl (by simp [e])
        · exact .inr (by omega)
      · rw [HSHE.out] at hv
        obtain ⟨a, e, hc⟩ := r2 j v hv
        cases e
        exact ⟨_, rfl, fun hm => by have := q1.c.lt g (List.mem_append.2 (.inl hm)); omega, hc⟩⟩
    have HNJ := As.mk (show (nodesOf (lCfg 8 pat tr) (shardOf (kb key) 2)).length = nj by rw [HSHE.out]; exact HG.out.1)
    obtain ⟨b, hb⟩ : ∃ b, L1.b = b := ⟨_, rfl⟩
    rw [hb] at HI0
    clear HQ hT hT1 hT4 HG HOK hb
    go_wp2_with fail
    go_loopw [12, 13] (fun v12 i wr => ∃ (k q : Nat) (s : Cs) (L : Lay), i = .int .i64 (k : Int) ∧ v12 = .int .i64 (q : Int) ∧ k ≤ T1 ∧ q ≤ tr ∧ As (CtI w (lCfg 8 pat tr) key P g b k q s L wr)) (fun _ i _ => T1 - (intOf i).toNat)
    case atStart => exact ⟨0, 0, _, _, rfl, rfl, by omega, by omega, HI0⟩
    case round =>
      obtain ⟨k, q, s, L, rfl, rfl, hk, hq, HI⟩ := hrel
      have pc := HI.out.pc
      by_cases hlt : k < T1
      · have i1 : (k : Int) < (T1 : Int) := by omega
        have HTK := As.mk (HI.out.tick (by rfl) hp.1 ht.1 (by show k < tr * pat + 1; rw [HTT.out]; exact hlt))
        have e3 : (k : Int).tmod (pat : Int) = ((k % pat : Nat) : Int) := by rw [Int.tmod_eq_emod_of_nonneg (by omega)]; rfl
        have i2 : IntKind.i64.wrap ((k : Int) + 1) = ((k + 1 : Nat) : Int) := by rw [IntKind.wrap_i64]; omega
        by_cases hA : k % pat = 0 ∧ q < tr
        · obtain ⟨m, hm⟩ : ∃ m, q % nj = m := ⟨_, rfl⟩
          have hmn : m < nj := by rw [← hm]; exact Nat.mod_lt _ (by omega)
          obtain ⟨y, hy⟩ : ∃ y, (nodesOf (lCfg 8 pat tr) (shardOf (kb key) 2)).getD m 0 = y := ⟨_, rfl⟩
          have HTA : As (Calls Tryz.prog 11 #[.pointer (some ⟨b, 0, none⟩)] wr fun e w5 => ∃ s2 L2 g2 c2, e = .returned (.slice (some ⟨g2, 0, none⟩) 1 c2) ∧ w5.cell? ⟨g2, 1, none⟩ = some (.int .i64 y) ∧ w5.cell? ⟨g, m, none⟩ = some (.int .i64 y) ∧ As (CtI w (lCfg 8 pat tr) key P g b (k + 1) (q + 1) s2 L2 w5)) := ⟨by
            refine HTK.out.mono ?_
            rintro e w5 ⟨s2, L2, ⟨_, _, ⟨g2, c2, rfl, d2⟩, hn⟩ | ⟨a1, _⟩⟩
            · rw [HNJ.out, hm, hy] at d2
              have hl : m < (nodesOf (lCfg 8 pat tr) (shardOf (kb key) 2)).length := by rw [HNJ.out]; exact hmn
              obtain ⟨_, _, e9, d9⟩ := int_at hn.rd.rd m hl
              cases e9
              rw [Nat.zero_add] at d9
              have ey : (nodesOf (lCfg 8 pat tr) (shardOf (kb key) 2))[m] = y := by rw [← hy]; simp [List.getD, hl]
              rw [ey] at d9
              exact ⟨s2, L2, g2, c2, rfl, d2, d9, ⟨hn⟩⟩
            · exact absurd hA a1⟩
          have e4 : (q : Int).tmod (nj : Int) = (m : Int) := by rw [Int.tmod_eq_emod_of_nonneg (by omega), ← hm]; rfl
          have i3 : (0 : Int) ≤ (m : Int) := by omega
          have i4 : (m : Int) < (nj : Int) := by omega
          have i5 : (q : Int) < (tr : Int) := by omega
          have e5 : (k : Int).tmod (pat : Int) = 0 := by rw [e3, hA.1]; rfl
          have i6 : q + 1 ≤ tr := hA.2
          have i7 : IntKind.i64.wrap ((q : Int) + 1) = ((q + 1 : Nat) : Int) := by rw [IntKind.wrap_i64]; omega
          clear HTK e3 hA hm hmn hy
          go_wp2_with (go_at_call 11; refine HTA.out.mono ?_; rintro e w5 ⟨s2, L2, g2, c2, rfl, d2, d9, HZ⟩; clear HTA pc)
          go_quiet (fail)
          go_wp2_with fail
          go_roundw
          case rel => exact ⟨k + 1, q + 1, s2, L2, by go_num, by go_num, by omega, i6, ⟨HZ.out.kp0 ((Kp.refl [] _).drewN _)⟩⟩
          case measure => simp [intOf]; omega
        · have HTB : As (Calls Tryz.prog 11 #[.pointer (some ⟨b, 0, none⟩)] wr fun e w5 => ∃ s2 L2 A2 c2, e = .returned (.slice A2 0 c2) ∧ As (CtI w (lCfg 8 pat tr) key P g b (k + 1) q s2 L2 w5)) := ⟨by
            refine HTK.out.mono ?_
            rintro e w5 ⟨s2, L2, ⟨a1, a2, _⟩ | ⟨_, ⟨A2, c2, rfl⟩, hn⟩⟩
            · exact absurd ⟨a1, a2⟩ hA
            · exact ⟨s2, L2, A2, c2, rfl, ⟨hn⟩⟩⟩
          by_cases h0 : k % pat = 0
          · have e5 : (k : Int).tmod (pat : Int) = 0 := by rw [e3, h0]; rfl
            have i5 : ¬ (q : Int) < (tr : Int) := by omega
            clear HTK e3 hA h0
            go_wp2_with (go_at_call 11; refine HTB.out.mono ?_; rintro e w5 ⟨s2, L2, A2, c2, rfl, HZ⟩; clear HTB pc)
            go_roundw
            case rel => exact ⟨k + 1, q, s2, L2, by go_num, rfl, by omega, hq, HZ⟩
            case measure => simp [intOf]; omega
          · obtain ⟨r, hr⟩ : ∃ r, k % pat = r := ⟨_, rfl⟩
            rw [hr] at e3 h0
            have i5 : ¬ (r : Int) = 0 := by omega
            clear HTK hA h0 hr
            go_wp2_with (go_at_call 11; refine HTB.out.mono ?_; rintro e w5 ⟨s2, L2, A2, c2, rfl, HZ⟩; clear HTB pc)
            go_roundw
            case rel => exact ⟨k + 1, q, s2, L2, by go_num, rfl, by omega, hq, HZ⟩
            case measure => simp [intOf]; omega
      · have hl := HI.out.tr.last (by show ¬ k < tr * pat + 1; rw [HTT.out]; exact hlt)
        obtain ⟨rfl, l1, l2⟩ : q = tr ∧ _ := hl
        have i1 : ¬ (k : Int) < (T1 : Int) := by omega
        have HDN : As (Calls Tryz.prog 18 #[.pointer (some ⟨b, 0, none⟩)] wr fun e w5 => ∃ g3 c3, e = .returned (.slice (some ⟨g3, 0, none⟩) 1 c3) ∧ w5.cell? ⟨g3, 1, none⟩ = some (.int .i64 14) ∧ w5.cell? ⟨P, 0, none⟩ = some (.pointer (some ⟨b, 0, none⟩)) ∧ As (Kp [] w w5 ∧ ∀ wX, Kp [] w5 wX → Calls Tryz.prog 10 #[.pointer (some ⟨b, 0, none⟩)] wX fun e w' => e = .returned (.int .i64 0) ∧ w' = wX)) := ⟨by
          have hd := done_any [P, g] wr L _ s HI.out.st
          rw [HI.out.hb] at hd
          refine hd.mono ?_
          rintro e w5 ⟨v, L3, rfl, c1, c2, ⟨vs, c3, _, c4⟩, _, c6⟩
          rw [l2] at c3 c4
          obtain ⟨g3, cc, rfl, _, _⟩ := own_form c3 (by simp)
          obtain ⟨A3, cc3, e3, _, _, c7, _⟩ := own_rd c3
          cases e3
          obtain ⟨x1, x2, rfl, ⟨tv, MV, rfl, _, _⟩, _⟩ := c4
          obtain ⟨a9, e9, c9⟩ := c7 1 (.int .i64 14) rfl
          cases e9
          rw [Addr.add_lit] at c9
          have k5 : Kp [] w w5 := HI.out.kp.trans c6 (fun x hx => .inr (HI.out.lo x hx))
          refine ⟨g3, cc, rfl, c9, c6.cell HI.out.pc (HI.out.st.apart P (by simp)), ⟨k5, fun wX kX => ?_⟩⟩
          have hl := left_any [P, g] wX L3 _ _ (c1.kp kX (by simp) (fun x hx => .inl hx))
          rw [c2.1, HI.out.hb] at hl
          have e : ({ s with done := [] } : Cs).jobs.length = 0 := by show s.jobs.length = 0; rw [l1]; rfl
          rw [e] at hl
          exact hl⟩
        have HKN := As.mk (fun wX => known_any wX)
        clear l1 l2
        go_wp2_with (first
          | (go_at_call 18; refine HDN.out.mono ?_; rintro e w5 ⟨g3, c3, rfl, d1, d2, HK5⟩; clear HDN pc)
          | (go_at_call 10; refine (HK5.out.2 _ (Kp.refl _ _)).mono ?_; rintro e w6 ⟨rfl, rfl⟩)
          | (go_at_call 7; refine (HKN.out _).mono ?_; rintro e w7 ⟨rfl, k7⟩; have HK7 := As.mk k7; clear k7 HKN)
          | fail)
        go_ret
        exact ⟨rfl, (HK5.out.1.trans HK7.out (by simp)).below⟩

theorem ctry_row (w : World) (key : ByteArray) (_ : key.size ≤ 140737488351232) (p : Int) (_ : (Lit.int .i64 p).wf = true) (t : Int) (_ : (Lit.int .i64 t).wf = true) :
    Calls Tryz.prog 6 #[.string key, .int .i64 p, .int .i64 t] w fun e w' => e = .returned (.bool true) ∧ Below w.heap.size w w' := by
  by_cases h : (key.size : Int) < 1 ∨ 64 < (key.size : Int) ∨ p < 1 ∨ 20 < p ∨ t < 1 ∨ 20 < t
  · exact ctry_bad key p t w h
  · obtain ⟨pat, hp⟩ : ∃ n : Nat, p = (n : Int) := ⟨p.toNat, by omega⟩
    obtain ⟨tr, ht⟩ : ∃ n : Nat, t = (n : Int) := ⟨t.toNat, by omega⟩
    subst hp ht
    exact ctry_good key pat tr w (by omega) (by omega) (by omega)
end Go.Proofs.YtdiljpdohmeceaaGreat.co
