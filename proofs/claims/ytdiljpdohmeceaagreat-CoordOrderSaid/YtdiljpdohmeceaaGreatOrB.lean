/- haystacklaw24.CoordOrder: what the law needs of each call. -/
import Derived.Test.YtdiljpdohmeceaaGreatOrA
import Derived.Test.YtdiljpdohmeceaaGreatCpB
import Derived.Test.YtdiljpdohmeceaaGreatCrm
import Derived.Test.YtdiljpdohmeceaaGreatBase
namespace Go.Proofs.YtdiljpdohmeceaaGreat.co
open Go.RowKit H O opk frame wir
open cr (RLay RsSt RNewJ RGrew)

/-- inside the law: memory -/
structure OrC (w : World) (cf : Cfg) (P b : Nat) (s : Cs) (L : Lay) (wr : World) : Prop where
  st : CoSt [P] wr L cf s
  hb : L.b = b
  lo : ∀ x ∈ L.all, w.heap.size ≤ x
  kp : Kp [] w wr
  pc : wr.cell? ⟨P, 0, none⟩ = some (.pointer (some ⟨b, 0, none⟩))
theorem OrC.next {w wr w4 : World} {cf : Cfg} {P b : Nat} {s s2 : Cs} {L L2 : Lay} (h : OrC w cf P b s L wr) (hc : CoSt [P] w4 L2 cf s2) (hg : Grew wr L L2) (hk : Kp L.all wr w4) : OrC w cf P b s2 L2 w4 := by
  have hz := h.kp.size
  exact ⟨hc, hg.1.trans h.hb, fun x hx => (hg.2 x hx).elim (fun e => h.lo x e) (fun e => by omega), h.kp.trans hk (fun x hx => .inr (h.lo x hx)), hk.cell h.pc (h.st.apart P (by simp))⟩
theorem OrC.kp0 {w wr w5 : World} {cf : Cfg} {P b : Nat} {s : Cs} {L : Lay} (h : OrC w cf P b s L wr) (k5 : Kp [] wr w5) : OrC w cf P b s L w5 :=
  ⟨h.st.kp k5 (by simp) (fun x hx => .inl hx), h.hb, h.lo, h.kp.trans k5 (by simp), k5.cell h.pc (by simp)⟩
theorem OrC.put {w wr : World} {cf : Cfg} {P b k : Nat} {s : Cs} {L : Lay} (h : OrC w cf P b s L wr) (ok : CsOk cf s) (key : ByteArray) (A : Option Addr) (n c : Nat) (xs : List Int) (hn : xs.length = n) (hr : Rd w A (iv .u8 xs)) (hnil : A = none → c = 0) (hk : 1 ≤ key.size ∧ key.size ≤ 64) (h4 : n ≤ 4096) (hj : nextJ s = k) (hk9 : k ≤ 1000) :
    Calls Tryz.prog 9 #[.pointer (some ⟨b, 0, none⟩), .string key, .slice A n c] wr fun e w2 => e = .returned (.tuple #[.int .i64 (k : Int), .int .i64 0]) ∧ w2.cell? ⟨P, 0, none⟩ = some (.pointer (some ⟨b, 0, none⟩)) ∧ As (∃ L2, OrC w cf P b (gives s (jPut key xs)) L2 w2) := by
  have hp := put_any [P] wr L cf s key A n c xs h.st ok (by omega) hn (h.kp.rd_new hr (by simp)) hnil (by omega)
  have e : putR s key xs = ((nextJ s : Int), 0, gives s (jPut key xs)) := by rw [putR, if_pos hk, if_pos (by omega)]
  rw [e, hj, h.hb] at hp
  refine hp.mono ?_
  rintro e w2 ⟨rfl, L2, h1, h2, h3⟩
  have hn := h.next h1 h2 h3
  exact ⟨rfl, hn.pc, ⟨L2, hn⟩⟩
theorem OrC.left {w wr : World} {cf : Cfg} {P b : Nat} {s : Cs} {L : Lay} (h : OrC w cf P b s L wr) {l : Int} (hl : (s.jobs.length : Int) = l) : Calls Tryz.prog 10 #[.pointer (some ⟨b, 0, none⟩)] wr fun e w' => e = .returned (.int .i64 l) ∧ w' = wr := by
  have := left_any [P] wr L cf s h.st
  rwa [h.hb, hl] at this
theorem or_len {mark : Int} {vs dat : List Int} (h : vs.length ≤ 3) (h2 : dat.length ≤ 9000) : (fEnc (pay mark vs dat)).length ≤ 10000 := by
  have := pay_len mark vs dat h
  rw [fEnc_len]
  omega

/-- a message is on its way: what stands behind the Tick -/
structure OrM (w : World) (id pat tr : Nat) (jobs : List Job) (P b k : Nat) (d : Int) (A5 : Option Addr) (F c5 : Nat) (fr : List Int) (w5 : World) : Prop where
  rd : Rd w5 A5 (iv .u8 fr)
  len : fr.length = F
  le : F ≤ c5
  d7 : 0 ≤ d ∧ d < 7
  st : ∃ s1 L2, OrC w (lCfg id pat tr) P b s1 L2 w5 ∧ CsOk (lCfg id pat tr) s1 ∧ HOk s1 ∧ s1.done = [] ∧
    ∀ (y : Int), (y = 0 ∨ y = 1) → ∀ m : Msg, m.dst = id → m.frm = d → m.data = fEnc (pay 114 [((k + 1 : Nat) : Int), 0, 0] (repBytes 0 [y])) →
      ∃ s2, hear (lCfg id pat tr) s1 m = (s2, []) ∧ s2.done = [⟨k, 0, decide (y = 1), false, [], []⟩] ∧ OrAt (lCfg id pat tr) jobs (k + 1) { s2 with done := [] }
theorem OrM.kp0 {w w5 w6 : World} {id pat tr : Nat} {jobs : List Job} {P b k : Nat} {d : Int} {A5 : Option Addr} {F c5 : Nat} {fr : List Int} (h : OrM w id pat tr jobs P b k d A5 F c5 fr w5) (k6 : Kp [] w5 w6) : OrM w id pat tr jobs P b k d A5 F c5 fr w6 := by
  obtain ⟨s1, L2, h1, h2⟩ := h.st
  exact ⟨k6.rd_new h.rd (by simp), h.len, h.le, h.d7, s1, L2, h1.kp0 k6, h2⟩
theorem OrC.tick {w wr : World} {id pat tr : Nat} {jobs : List Job} {P b k : Nat} {s : Cs} {L : Lay} {key : ByteArray} {text : List Int} (h : OrC w (lCfg id pat tr) P b s L wr) (ha : OrAt (lCfg id pat tr) jobs k s) (hi : jobs[k]? = some (jPut key text)) (hk9 : k ≤ 1000) :
    Calls Tryz.prog 11 #[.pointer (some ⟨b, 0, none⟩)] wr fun e w5 => ∃ g2 c2 d A5 F c5 sh, e = .returned (.slice (some ⟨g2, 0, none⟩) 1 c2) ∧ w5.cell? ⟨g2, 1, none⟩ = some (.int .i64 d) ∧ w5.cell? ⟨g2, 2, none⟩ = some (.slice A5 F c5) ∧ w5.cell? ⟨P, 0, none⟩ = some (.pointer (some ⟨b, 0, none⟩)) ∧
      As ((0 ≤ sh ∧ sh < 2) ∧ OrM w id pat tr jobs P b k d A5 F c5 (fEnc (pay 113 [1, ((k + 1 : Nat) : Int), sh] (opBytes 1 id (k + 1) key text))) w5) := by
  obtain ⟨sh, d, q1, q2, q3, q4, q5, q6, q7⟩ := ha.tick hi hk9
  have hc := tick_all [P] wr L _ s h.st ha.ok ha.wt (by rw [ha.ctx]; omega) (by rw [ha.ended]; omega) (by rw [ha.done]; simp)
  rw [h.hb] at hc
  refine hc.mono ?_
  rintro e w5 ⟨L2, v, rfl, r1, r2, r3, r4⟩
  rw [q1] at r2
  obtain ⟨g2, c2, rfl, _, _⟩ := r2.pos (by simp)
  obtain ⟨dv, _, m1, m2, A5, c5, rfl, m3, m4, m5, m6⟩ := r2.at (i := 0) rfl
  have hn := h.next r1 r3 r4
  exact ⟨g2, c2, d, A5, _, c5, (sh : Int), rfl, m1, m2, hn.pc, ⟨⟨by omega, by omega⟩, ⟨m3.rd, rfl, m4, q2, _, L2, hn, q4, q5, q6, q7⟩⟩⟩
/-- the answer is heard -/
theorem OrM.hear {w w5 : World} {id pat tr : Nat} {jobs : List Job} {P b k : Nat} {d : Int} {A5 : Option Addr} {F c5 : Nat} {fr : List Int} (h : OrM w id pat tr jobs P b k d A5 F c5 fr w5) {y : Int} (hy : y = 0 ∨ y = 1) (A : Option Addr) (n c : Nat) (hn : (fEnc (pay 114 [((k + 1 : Nat) : Int), 0, 0] (repBytes 0 [y]))).length = n)
    (hr : Rd w5 A (iv .u8 (fEnc (pay 114 [((k + 1 : Nat) : Int), 0, 0] (repBytes 0 [y]))))) (hc : n ≤ c) :
    Calls Tryz.prog 17 #[.pointer (some ⟨b, 0, none⟩), .agg #[.int .i64 d, .int .i64 id, .slice A n c]] w5 fun e w6 => ∃ A6 c6, e = .returned (.slice A6 0 c6) ∧ w6.cell? ⟨P, 0, none⟩ = some (.pointer (some ⟨b, 0, none⟩)) ∧
      As (∃ s2 L3, OrC w (lCfg id pat tr) P b s2 L3 w6 ∧ s2.done = [⟨k, 0, decide (y = 1), false, [], []⟩] ∧ OrAt (lCfg id pat tr) jobs (k + 1) { s2 with done := [] }) := by
  obtain ⟨s1, L2, h1, h2, h3, h4, h5⟩ := h.st
  obtain ⟨s2, e1, e2, e3⟩ := h5 y hy ⟨d, id, fEnc (pay 114 [((k + 1 : Nat) : Int), 0, 0] (repBytes 0 [y]))⟩ rfl rfl rfl
  have hl := repBytes_len 0 [y]
  have hf := or_len (mark := 114) (vs := [((k + 1 : Nat) : Int), 0, 0]) (dat := repBytes 0 [y]) (by simp) (by omega)
  have hw : Wf (fEnc (pay 114 [((k + 1 : Nat) : Int), 0, 0] (repBytes 0 [y]))) := fEnc_wf (pay_wf (by omega) (wf_app (nums_u8 _) (nums_u8 _)))
  have hh := hear_any [P] w5 L2 (lCfg id pat tr) s1 ⟨d, id, fEnc (pay 114 [((k + 1 : Nat) : Int), 0, 0] (repBytes 0 [y]))⟩ A n c h1.st h2 h3 (by rw [h4]; simp) hn hr hc hw (by omega)
  rw [e1, h1.hb] at hh
  refine hh.mono ?_
  rintro e w6 ⟨L3, v, rfl, r1, r2, r3, r4⟩
  obtain ⟨A6, c6, rfl, _⟩ := r2.form
  have hn := h1.next r1 r3 r4
  exact ⟨A6, c6, rfl, hn.pc, ⟨s2, L3, hn, e2, e3⟩⟩
theorem OrC.done {w wr : World} {cf : Cfg} {P b k : Nat} {s : Cs} {L : Lay} {y : Bool} (h : OrC w cf P b s L wr) (hd : s.done = [⟨k, 0, y, false, [], []⟩]) :
    Calls Tryz.prog 18 #[.pointer (some ⟨b, 0, none⟩)] wr fun e w5 => ∃ g3 c3, e = .returned (.slice (some ⟨g3, 0, none⟩) 1 c3) ∧ w5.cell? ⟨g3, 0, none⟩ = some (.int .i64 (k : Int)) ∧ w5.cell? ⟨g3, 1, none⟩ = some (.int .i64 0) ∧ w5.cell? ⟨g3, 2, none⟩ = some (.bool y) ∧ w5.cell? ⟨P, 0, none⟩ = some (.pointer (some ⟨b, 0, none⟩)) ∧
      As (∃ L3, OrC w cf P b { s with done := [] } L3 w5) := by
  have hq := done_any [P] wr L _ s h.st
  rw [h.hb] at hq
  refine hq.mono ?_
  rintro e w5 ⟨v, L3, rfl, c1, c2, ⟨vs, c3, _, c4⟩, _, c6⟩
  rw [hd] at c3 c4
  obtain ⟨g3, cc, rfl, _, _⟩ := own_form c3 (by simp)
  obtain ⟨A3, cc3, e3, _, _, c7, _⟩ := own_rd c3
  cases e3
  obtain ⟨x1, x2, rfl, ⟨tv, MV, rfl, _, _⟩, _⟩ := c4
  have cell : ∀ j v, ([.int .i64 (k : Int), .int .i64 0, .bool y] : List Value)[j]? = some v → w5.cell? ⟨g3, j, none⟩ = some v := fun j v hv => by
    obtain ⟨a9, e9, c9⟩ := c7 j v (by
      match j, hv with
      | 0, hv => simpa using hv
      | 1, hv => simpa using hv
      | 2, hv => simpa using hv)
    cases e9
    simpa [Addr.add_lit] using c9
  have hn := h.next c1 c2 c6
  exact ⟨g3, cc, rfl, cell 0 _ rfl, cell 1 _ rfl, cell 2 _ rfl, hn.pc, ⟨L3, hn⟩⟩
end Go.Proofs.YtdiljpdohmeceaaGreat.co
