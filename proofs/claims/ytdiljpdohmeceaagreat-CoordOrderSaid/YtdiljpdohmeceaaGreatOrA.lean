/- haystacklaw24.CoordOrder: the plain law: one Put behind the other, each answered. -/
import Derived.Test.YtdiljpdohmeceaaGreatTkm
import Derived.Test.YtdiljpdohmeceaaGreatHeL
import Derived.Test.YtdiljpdohmeceaaGreatRw
import Derived.Test.YtdiljpdohmeceaaGreatBase
namespace Go.Proofs.YtdiljpdohmeceaaGreat.co
open Go.RowKit H O opk frame wir

theorem stNums_three {a b c : Int} (ha : 0 ≤ a ∧ a ≤ 4611686018427387904) (hb : 0 ≤ b ∧ b ≤ 4611686018427387904) (hc : 0 ≤ c ∧ c ≤ 4611686018427387904) (r : List Int) : stNums 3 (some (nums [a, b, c] ++ r)) = ([a, b, c], some r) := by
  have e0 : stNum (some (nums [a, b, c] ++ r)) = (O.cl a, some (nums [b, c] ++ r)) := by rw [nums_cons, List.append_assoc]; exact stNum_num _ _
  have e1 : stNum (some (nums [b, c] ++ r)) = (O.cl b, some (nums [c] ++ r)) := by rw [nums_cons, List.append_assoc]; exact stNum_num _ _
  have e2 : stNum (some (nums [c] ++ r)) = (O.cl c, some r) := by rw [nums_cons, List.append_assoc]; exact stNum_num _ _
  simp only [stNums, e0, e1, e2, cl_of ha.1 ha.2, cl_of hb.1 hb.2, cl_of hc.1 hc.2]
theorem or_one {p : List Int} (hp : p.length ≤ 1048576) : fOne (fEnc p) = (p, 0) := by
  have h := fDec_enc [] hp
  rw [List.append_nil] at h
  rw [fOne, if_neg (by rw [h]; rintro ⟨_, h2⟩; exact h2 (by rw [fEnc_len])), h]
theorem or_pay (mark : Int) (vs xs : List Int) : pay mark vs xs = mark :: (nums vs ++ row xs) := by simp [pay]
/-- a record of three numbers and bytes, read -/
theorem rd3_enc {mark a b c : Int} {dat : List Int} {most : Nat} (ha : 0 ≤ a ∧ a ≤ 4611686018427387904) (hb : 0 ≤ b ∧ b ≤ 4611686018427387904) (hc : 0 ≤ c ∧ c ≤ 4611686018427387904) (hd : dat.length ≤ most) (hm : most ≤ 1000000) :
    rd3 mark most (fEnc (pay mark [a, b, c] dat)) = ([a, b, c], dat, 0) := by
  have hl := pay_len mark [a, b, c] dat (by simp)
  have h1 : fOne (fEnc (pay mark [a, b, c] dat)) = (pay mark [a, b, c] dat, 0) := or_one (by omega)
  have h2 : stRaw 1 (some (pay mark [a, b, c] dat)) = ([mark], some (nums [a, b, c] ++ row dat)) := by
    rw [or_pay, O.stRaw]
    rw [if_neg (by simp only [List.length_cons]; omega)]
    rfl
  have h3 := stNums_three ha hb hc (row dat)
  have h4 : stBytes (some (row dat)) = (dat, some []) := by
    have := stBytes_row dat [] (by omega)
    rwa [List.append_nil] at this
  rw [rd3, h1, if_neg (by simp), h2, if_neg (by simp)]
  simp only [h3, h4]
  rw [if_pos ⟨trivial, hd⟩]
theorem dWReq_enc {k c s : Int} {dat : List Int} (h : rqOk k c s = true) (hd : dat.length ≤ 8192) : ref22.dWReq (fEnc (pay 113 [k, c, s] dat)) = (⟨k, c, s, dat⟩, 0) := by
  have hb := ref22.rqOk_iff.1 h
  rw [ref22.dWReq, rd3_enc (by omega) (by omega) (by omega) hd (by decide), if_neg (by simp)]
  simp only [List.getD_cons_zero, List.getD_cons_succ]
  rw [if_pos h]
theorem dWRep_enc {c e s : Int} {dat : List Int} (h : wrOk c e s = true) (hd : dat.length ≤ 524288) : dWRep (fEnc (pay 114 [c, e, s + 1] dat)) = (⟨c, e, s, dat⟩, 0) := by
  have hb := ref22.wrOk_iff.1 h
  rw [dWRep, rd3_enc (by omega) (by omega) (by omega) hd (by decide), if_neg (by simp)]
  simp only [List.getD_cons_zero, List.getD_cons_succ]
  rw [show s + 1 - 1 = s by omega, if_pos h]
theorem dRep_one {b : Int} (hb : 0 ≤ b ∧ b ≤ 4611686018427387904) : dRep (repBytes 0 [b]) = (0, [b], 0) := by
  have e : repBytes 0 [b] = num 0 ++ (num ((1 : Nat) : Int) ++ (nums [b] ++ [])) := by simp [repBytes, nums_cons, nums_nil]
  have q0 : stNum (some (repBytes 0 [b])) = (O.cl 0, some (num ((1 : Nat) : Int) ++ (nums [b] ++ []))) := by rw [e]; exact stNum_num _ _
  have q1 : stNum (some (num ((1 : Nat) : Int) ++ (nums [b] ++ []))) = (O.cl ((1 : Nat) : Int), some (nums [b] ++ [])) := stNum_num _ _
  have c0 := cl_of (n := 0) (by omega) (by omega)
  have c0' : O.cl 0 = 0 := by omega
  have c1 := cl_of (n := ((1 : Nat) : Int)) (by omega) (by omega)
  have c1' : O.cl ((1 : Nat) : Int) = 1 := by omega
  have q2 : stNum (some (nums [b] ++ [])) = (O.cl b, some []) := by rw [nums_cons, List.append_assoc]; exact stNum_num _ _
  simp only [dRep, q0, q1, c1', c0', stNums, q2, cl_of hb.1 hb.2]
  rw [if_pos ⟨by omega, by omega, trivial⟩]
  rfl
/-- a write's answer: was there one before? -/
theorem took_put {key : ByteArray} {text : List Int} {b : Int} (hb : b = 0 ∨ b = 1) : took (jPut key text) (repBytes 0 [b]) = ⟨decide (b = 1), false, [], [], 0⟩ := by
  rw [took, if_pos (show (jPut key text).kind = 1 from rfl), tookW, dRep_one (by omega), if_neg (by simp), if_neg (by simp), if_pos rfl]
  rcases hb with rfl | rfl <;> rfl

/-- the only ask is answered -/
theorem hear_ends {cf : Cfg} {s : Cs} {j : Job} {r : List Job} {a : Ask} {m : Msg} {h : Int} {dat : List Int} {t : Took} (hj : s.jobs = j :: r) (ha : s.asks = [a]) (h0 : a.answered = false) (hm : m.dst = (cf.id : Int)) (hf : 0 ≤ m.frm ∧ m.frm < 7) (hd : dWRep m.data = (⟨(a.ctx : Int), 0, h, dat⟩, 0)) (ht : took j dat = t) (he : t.err = 0) :
    hear cf s m = (endJob s ⟨s.ended, 0, t.was, t.has, t.text, sortM t.ms⟩, []) := by
  have hix : askIx [a] (a.ctx : Int) = some 0 := by
    simp [askIx, List.findIdx?_cons, h0]
  unfold hear
  rw [if_neg (by omega), hj]
  simp only [hd, ha, hix]
  rw [if_neg (by simp)]
  simp only [List.getElem?_cons_zero, ht, if_true]
  rw [if_neg (by rw [he]; simp), if_pos (by simp)]
  simp

/-- between the rounds of the law -/
structure OrAt (cf : Cfg) (jobs : List Job) (i : Nat) (s : Cs) : Prop where
  jobs : s.jobs = jobs.drop i
  ended : s.ended = i
  ctx : s.ctx = i
  asks : s.asks = []
  done : s.done = []
  ok : CsOk cf s
theorem OrAt.wt {cf : Cfg} {jobs : List Job} {i : Nat} {s : Cs} (h : OrAt cf jobs i s) : Wt cf s.asks := fun a ha => by rw [h.asks] at ha; cases ha
theorem bit_eq (i : Nat) : ((i % 2 : Nat) : Int) = 0 ∨ ((i % 2 : Nat) : Int) = 1 := by omega
/-- what a Tick does there -/
theorem OrAt.tick {id pat tr : Nat} {jobs : List Job} {i : Nat} {s : Cs} {key : ByteArray} {text : List Int} (h : OrAt (lCfg id pat tr) jobs i s) (hi : jobs[i]? = some (jPut key text)) (hn : i ≤ 1000) :
    ∃ (sh : Nat) (d : Int), (tick (lCfg id pat tr) s).2 = [⟨id, d, fEnc (pay 113 [1, ((i + 1 : Nat) : Int), (sh : Int)] (opBytes 1 id (i + 1) key text))⟩] ∧ (0 ≤ d ∧ d < 7) ∧ sh < 2 ∧
      CsOk (lCfg id pat tr) (tick (lCfg id pat tr) s).1 ∧ HOk (tick (lCfg id pat tr) s).1 ∧ (tick (lCfg id pat tr) s).1.done = [] ∧
      ∀ (b : Int), (b = 0 ∨ b = 1) → ∀ m : Msg, m.dst = id → m.frm = d → m.data = fEnc (pay 114 [((i + 1 : Nat) : Int), 0, 0] (repBytes 0 [b])) →
        ∃ s2, hear (lCfg id pat tr) (tick (lCfg id pat tr) s).1 m = (s2, []) ∧ s2.done = [⟨i, 0, decide (b = 1), false, [], []⟩] ∧ OrAt (lCfg id pat tr) jobs (i + 1) { s2 with done := [] } := by
  have hlt := (List.getElem?_eq_some_iff.1 hi).1
  have hjs : s.jobs = jPut key text :: jobs.drop (i + 1) := by
    rw [h.jobs, List.drop_eq_getElem_cons hlt]
    congr 1
    exact (List.getElem?_eq_some_iff.1 hi).2
  obtain ⟨sh, hsh⟩ : ∃ sh, shardOf (kb key) 2 = sh := ⟨_, rfl⟩
  have hs2 : sh < 2 := by rw [← hsh]; exact shardOf_lt _ (by decide)
  have hjss : jshards (lCfg id pat tr) (jPut key text) = [sh] := by rw [← hsh]; rfl
  have hi1 := tick_inv h.ok h.wt
  have ht : co.tick (lCfg id pat tr) s = ({ s with asks := [newAsk (lCfg id pat tr) i (jPut key text) 1 (i + 1) sh], ctx := i + 1 }, [msgOf (lCfg id pat tr) s.whom (newAsk (lCfg id pat tr) i (jPut key text) 1 (i + 1) sh)]) := by
    rw [tick_new hjs h.asks, hjss, h.ended, h.ctx]
    rfl
  obtain ⟨d, hd⟩ : ∃ d, dest (lCfg id pat tr) s.whom sh = d := ⟨_, rfl⟩
  have hd7 : 0 ≤ d ∧ d < 7 := by
    rw [← hd]
    unfold dest
    have hw1 : s.whom.length = 2 := h.ok.wlen
    have hw := h.ok.whom sh (by omega) (by show sh < 2; omega)
    obtain ⟨q, hq⟩ : ∃ q, s.whom.getD sh 0 = q := ⟨_, rfl⟩
    have hq2 : s.whom[sh]'(by omega) = q := by rw [← hq]; simp [List.getD, show sh < s.whom.length by omega]
    rw [hq2] at hw
    rw [hq]
    rcases (by omega : sh = 0 ∨ sh = 1) with rfl | rfl
    · have hw' : q < 3 := hw
      rcases (by omega : q = 0 ∨ q = 1 ∨ q = 2) with rfl | rfl | rfl <;> simp [lCfg]
    · have hw' : q < 2 := hw
      rcases (by omega : q = 0 ∨ q = 1) with rfl | rfl <;> simp [lCfg]
  rw [ht] at hi1 ⊢
  refine ⟨sh, d, ?_, hd7, hs2, hi1.1, ⟨fun a ha _ => ?_, fun _ _ _ _ => by simp, fun a ha => ?_⟩, h.done, fun b hb m m1 m2 m3 => ?_⟩
  · simp only [msgOf, newAsk, hd, frameOf, wkind, jdata, jPut, if_true]
    rw [show ((lCfg id pat tr).id : Int) = id from rfl]
  · simp only [List.mem_singleton] at ha
    rw [ha]
    rfl
  · simp only [List.mem_singleton] at ha
    rw [ha]
    simp [newAsk]
  · have hwr : wrOk ((i + 1 : Nat) : Int) 0 (-1) = true := ref22.wrOk_iff.2 (by omega)
    have hrl := repBytes_len 0 [b]
    have hdw := dWRep_enc (dat := repBytes 0 [b]) hwr (by omega)
    rw [show (-1 : Int) + 1 = 0 by omega, ← m3] at hdw
    have he := hear_ends (cf := lCfg id pat tr) (s := { s with asks := [newAsk (lCfg id pat tr) i (jPut key text) 1 (i + 1) sh], ctx := i + 1 }) (m := m) (j := jPut key text) (t := ⟨decide (b = 1), false, [], [], 0⟩) hjs rfl rfl (by rw [m1]; rfl) (by rw [m2]; exact hd7) hdw (took_put hb) rfl
    refine ⟨_, he, ?_, ?_⟩
    · show s.done ++ _ = _
      rw [h.done, h.ended]
      simp [sortM]
    · have ok2 := endErr_ok hi1.1 ⟨s.ended, 0, decide (b = 1), false, [], sortM []⟩
      refine ⟨?_, by show s.ended + 1 = i + 1; rw [h.ended], rfl, rfl, rfl, ⟨ok2.cfg, ok2.wlen, ok2.whom, ok2.jobs, ok2.asks, ok2.none, ok2.few⟩⟩
      show s.jobs.tail = _
      rw [hjs]
      rfl
end Go.Proofs.YtdiljpdohmeceaaGreat.co
