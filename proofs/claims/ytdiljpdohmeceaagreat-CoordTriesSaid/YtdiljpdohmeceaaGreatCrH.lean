/- haystackref24: how the document's one who asks lies in memory. -/
import Derived.Test.YtdiljpdohmeceaaGreatCo7
namespace Go.Proofs.YtdiljpdohmeceaaGreat.co.cr
open Go.RowKit H O opk frame wir

/-- a job's cells -/
def RjOk (S : List Nat) (w : World) : List Job → List Value → Prop
  | [], vs => vs = []
  | j :: l, vs => ∃ tv b, vs = [.int .i64 (j.kind : Int), .string j.key, tv] ++ b ∧ BSl S w tv j.text ∧ RjOk S w l b
theorem RjOk.kp {S S2 V : List Nat} {w w1 : World} (k : Kp V w w1) (hV : ∀ x ∈ V, x ∈ S ∨ w.heap.size ≤ x) (hS : ∀ x ∈ S2, x ∈ S ∨ w.heap.size ≤ x) : ∀ {l : List Job} {vs : List Value}, RjOk S w l vs → RjOk S2 w1 l vs
  | [], _, h => h
  | _ :: _, _, ⟨a, b, h1, h2, h3⟩ => ⟨a, b, h1, h2.kp k hV hS, RjOk.kp k hV hS h3⟩
theorem RjOk.snoc {S : List Nat} {w : World} {j : Job} {tv : Value} (hr : BSl S w tv j.text) : ∀ {l : List Job} {vs : List Value}, RjOk S w l vs → RjOk S w (l ++ [j]) (vs ++ [.int .i64 (j.kind : Int), .string j.key, tv])
  | [], vs, h => by
    obtain rfl : vs = [] := h
    exact ⟨tv, [], by simp, hr, rfl⟩
  | _ :: _, _, ⟨p, q, h1, h2, h3⟩ => by
    subst h1
    exact ⟨p, q ++ _, by simp, h2, RjOk.snoc hr h3⟩
theorem RjOk.get {S : List Nat} {w : World} : ∀ {l : List Job} {vs : List Value} {i : Nat} {j : Job}, RjOk S w l vs → l[i]? = some j → ∃ tv, vs[i * 3]? = some (.int .i64 (j.kind : Int)) ∧ vs[i * 3 + 1]? = some (.string j.key) ∧ vs[i * 3 + 2]? = some tv ∧ BSl S w tv j.text
  | [], _, _, _, _, h => by simp at h
  | x :: l, vs, 0, m, ⟨dv, b, h1, h2, _⟩, h => by
    cases h
    subst h1
    exact ⟨dv, rfl, rfl, rfl, h2⟩
  | x :: l, vs, i + 1, m, ⟨dv, b, h1, _, h3⟩, h => by
    subst h1
    obtain ⟨d, g1, g2, g3, g4⟩ := RjOk.get h3 (i := i) (j := m) (by simpa using h)
    refine ⟨d, ?_, ?_, ?_, g4⟩
    · rw [show (i + 1) * 3 = i * 3 + 3 by omega]; exact g1
    · rw [show (i + 1) * 3 + 1 = i * 3 + 1 + 3 by omega]; exact g2
    · rw [show (i + 1) * 3 + 2 = i * 3 + 2 + 3 by omega]; exact g3
/-- an ask's cells -/
def askV (a : Ask) (fv mv' : Value) : List Value := [.int .i64 (a.shard : Int), .int .i64 (a.ctx : Int), fv, .int .i64 (a.tried : Int), .int .i64 (a.waited : Int), .bool a.hinted, .bool a.answered, .bool false, .bool false, .slice none 0 0, mv']
def RaOk (S : List Nat) (w : World) : List Ask → List Value → Prop
  | [], vs => vs = []
  | a :: l, vs => ∃ fv mv' b, vs = askV a fv mv' ++ b ∧ BSl S w fv a.frame ∧ MSl S w mv' a.ms ∧ RaOk S w l b
theorem RaOk.kp {S S2 V : List Nat} {w w1 : World} (k : Kp V w w1) (hV : ∀ x ∈ V, x ∈ S ∨ w.heap.size ≤ x) (hS : ∀ x ∈ S2, x ∈ S ∨ w.heap.size ≤ x) : ∀ {l : List Ask} {vs : List Value}, RaOk S w l vs → RaOk S2 w1 l vs
  | [], _, h => h
  | _ :: _, _, ⟨a, m, b, h1, h2, h3, h4⟩ => ⟨a, m, b, h1, h2.kp k hV hS, h3.kp k hV hS, RaOk.kp k hV hS h4⟩
/-- what ended -/
def RDone (S : List Nat) (w : World) (v : Value) (g : Option Nat) (l : List Res) : Prop :=
  ∃ vs, w.ownsRow 0 138 6 v l.length vs ∧ v.ownBlock = g ∧ RsOk S w l vs
theorem RDone.kp {S S2 V : List Nat} {w w1 : World} {v : Value} {g : Option Nat} {l : List Res} (h : RDone S w v g l) (k : Kp V w w1) (hg : ∀ x, g = some x → x ∉ V) (hV : ∀ x ∈ V, x ∈ S ∨ w.heap.size ≤ x) (hS : ∀ x ∈ S2, x ∈ S ∨ w.heap.size ≤ x) : RDone S2 w1 v g l := by
  obtain ⟨vs, h1, rfl, h3⟩ := h
  exact ⟨vs, k.own h1 hg, rfl, h3.kp k hV hS⟩

structure RLay where
  b : Nat
  gw : Nat
  gL : Option Nat
  ga : Option Nat
  gd : Option Nat
def RLay.all (L : RLay) : List Nat := L.b :: L.gw :: (L.gL.toList ++ L.ga.toList ++ L.gd.toList)
theorem RLay.mem {L : RLay} {x : Nat} : x ∈ L.all ↔ x = L.b ∨ x = L.gw ∨ L.gL = some x ∨ L.ga = some x ∨ L.gd = some x := by
  simp [RLay.all]
structure RSep (U : List Nat) (L : RLay) (κ : Nat → Nat) (n : Nat) : Prop where
  b : κ L.b = 1 ∧ L.b < n
  gw : κ L.gw = 2 ∧ L.gw < n
  gL : ∀ x, L.gL = some x → κ x = 3 ∧ x < n
  ga : ∀ x, L.ga = some x → κ x = 4 ∧ x < n
  gd : ∀ x, L.gd = some x → κ x = 5 ∧ x < n
  U : ∀ x ∈ U, κ x = 0 ∧ x < n
theorem RSep.pos {U : List Nat} {L : RLay} {κ : Nat → Nat} {n x : Nat} (h : RSep U L κ n) (hx : x ∈ L.all) : 1 ≤ κ x ∧ x < n := by
  rcases RLay.mem.1 hx with rfl | rfl | e | e | e
  · have := h.b; omega
  · have := h.gw; omega
  · have := h.gL x e; omega
  · have := h.ga x e; omega
  · have := h.gd x e; omega
theorem RSep.foreign {U U2 : List Nat} {L : RLay} {κ : Nat → Nat} {n m : Nat} (h : RSep U L κ n) (hm : n ≤ m) (hU : ∀ x ∈ U2, x ∈ U ∨ n ≤ x ∧ x < m) : RSep U2 L (fun x => if x < n then κ x else 0) m := by
  have lo : ∀ x c, κ x = c ∧ x < n → (if x < n then κ x else 0) = c ∧ x < m := fun x c hx => by rw [if_pos hx.2]; exact ⟨hx.1, by omega⟩
  refine ⟨lo _ _ h.b, lo _ _ h.gw, fun x e => lo _ _ (h.gL x e), fun x e => lo _ _ (h.ga x e), fun x e => lo _ _ (h.gd x e), fun x hx => ?_⟩
  show (if x < n then κ x else 0) = 0 ∧ x < m
  rcases hU x hx with e | e
  · have := h.U x e
    rw [if_pos this.2]
    exact ⟨this.1, by omega⟩
  · rw [if_neg (by omega)]
    exact ⟨rfl, e.2⟩

/-- whom to ask, as nodes -/
def whomN (cf : Cfg) (whom : List Nat) : List Int := (List.range cf.shards.length).map fun i => dest cf whom i
theorem whomN_len (cf : Cfg) (whom : List Nat) : (whomN cf whom).length = cf.shards.length := by simp [whomN]
/-- the document's one who asks -/
structure RsP (U : List Nat) (w : World) (L : RLay) (cf : Cfg) (s : Cs) (κ : Nat → Nat) (VS VW VL VA VD : Value) : Prop where
  sep : RSep U L κ w.heap.size
  hd : w.heap[L.b]? = some (.cells #[.int .i64 (cf.id : Int), .int .i64 (cf.pat : Int), .int .i64 (cf.tries : Int), VS, VW, VL, .int .i64 (s.ended : Int), VA, .int .i64 (s.ctx : Int), VD] 136 (0, 0))
  sh : Shd (L.all ++ U) w VS cf.shards
  wh : w.ownsRow 0 3 1 VW cf.shards.length (iv .i64 (whomN cf s.whom)) ∧ VW.ownBlock = some L.gw
  jq : ∃ past vs, past.length = s.ended ∧ w.ownsRow 0 168 3 VL (s.ended + s.jobs.length) vs ∧ RjOk (L.all ++ U) w (past ++ s.jobs) vs ∧ VL.ownBlock = L.gL
  aq : ∃ vs, w.ownsRow 0 171 11 VA s.asks.length vs ∧ RaOk (L.all ++ U) w s.asks vs ∧ VA.ownBlock = L.ga
  dn : RDone (L.all ++ U) w VD L.gd s.done
def RsSt (U : List Nat) (w : World) (L : RLay) (cf : Cfg) (s : Cs) : Prop := ∃ κ VS VW VL VA VD, RsP U w L cf s κ VS VW VL VA VD
theorem RsP.kp {U U2 V : List Nat} {w w1 : World} {L : RLay} {cf : Cfg} {s : Cs} {κ : Nat → Nat} {VS VW VL VA VD : Value} (h : RsP U w L cf s κ VS VW VL VA VD) (k : Kp V w w1)
    (hV : ∀ x ∈ V, x ∈ U ∨ w.heap.size ≤ x) (hU : ∀ x ∈ U2, x ∈ U ∨ w.heap.size ≤ x ∧ x < w1.heap.size) : RsP U2 w1 L cf s (fun x => if x < w.heap.size then κ x else 0) VS VW VL VA VD := by
  have nV : ∀ x, x ∈ L.all → x ∉ V := by
    intro x hx hm
    have h1 := h.sep.pos hx
    rcases hV x hm with e | e
    · have := (h.sep.U x e).1; omega
    · omega
  have hV' : ∀ x ∈ V, x ∈ L.all ++ U ∨ w.heap.size ≤ x := fun x hx => (hV x hx).imp (fun e => List.mem_append.2 (.inr e)) id
  have hS' : ∀ x ∈ L.all ++ U2, x ∈ L.all ++ U ∨ w.heap.size ≤ x := by
    intro x hx
    rcases List.mem_append.1 hx with e | e
    · exact .inl (List.mem_append.2 (.inl e))
    · exact (hU x e).imp (fun e => List.mem_append.2 (.inr e)) (fun e => e.1)
  have mem := fun x => (RLay.mem (L := L) (x := x)).2
  obtain ⟨past, vs, j1, j2, j3, j4⟩ := h.jq
  obtain ⟨us, a1, a2, a3⟩ := h.aq
  exact ⟨h.sep.foreign k.size hU, k.blk h.hd (nV _ (mem _ (.inl rfl))), h.sh.kp k hV' hS', ⟨k.own h.wh.1 (fun x e => nV x (mem x (.inr (.inl (by rw [h.wh.2] at e; exact (Option.some.inj e).symm))))), h.wh.2⟩,
    ⟨past, vs, j1, k.own j2 (fun x e => nV x (mem x (by rw [j4] at e; simp [e]))), j3.kp k hV' hS', j4⟩, ⟨us, k.own a1 (fun x e => nV x (mem x (by rw [a3] at e; simp [e]))), a2.kp k hV' hS', a3⟩,
    h.dn.kp k (fun x e => nV x (mem x (by simp [e]))) hV' hS'⟩
theorem RsSt.kp {U U2 V : List Nat} {w w1 : World} {L : RLay} {cf : Cfg} {s : Cs} (h : RsSt U w L cf s) (k : Kp V w w1) (hV : ∀ x ∈ V, x ∈ U ∨ w.heap.size ≤ x) (hU : ∀ x ∈ U2, x ∈ U ∨ w.heap.size ≤ x ∧ x < w1.heap.size) : RsSt U2 w1 L cf s := by
  obtain ⟨κ, VS, VW, VL, VA, VD, h⟩ := h
  exact ⟨_, _, _, _, _, _, h.kp k hV hU⟩
theorem RsSt.lt {U : List Nat} {w : World} {L : RLay} {cf : Cfg} {s : Cs} (h : RsSt U w L cf s) : ∀ x ∈ L.all ++ U, x < w.heap.size := by
  obtain ⟨κ, VS, VW, VL, VA, VD, h⟩ := h
  intro x hx
  rcases List.mem_append.1 hx with e | e
  · exact (h.sep.pos e).2
  · exact (h.sep.U x e).2
def RGrew (w : World) (L L' : RLay) : Prop := L'.b = L.b ∧ ∀ x ∈ L'.all, x ∈ L.all ∨ w.heap.size ≤ x
theorem RGrew.refl (w : World) (L : RLay) : RGrew w L L := ⟨rfl, fun _ h => .inl h⟩

/-! haystackref20 -/
set_option maxHeartbeats 4000000 in
theorem hash_any (key : ByteArray) (w : World) (hz : key.size ≤ 140737488351232) : Calls Tryz.prog 70 #[.string key] w fun e w' => e = .returned (.int .u64 (hashL (kb key))) ∧ w' = w := by
  obtain ⟨m, hkm⟩ : ∃ m, key.size = m := ⟨_, rfl⟩
  have HM := As.mk (show (kb key).length = m by rw [kb_len, hkm])
  rw [hkm] at hz
  have HKM := As.mk hkm
  go_enter Tryz.func70, Tryz.ntmps70
  go_wp2
  go_loop [3, 4] (fun h i => ∃ k : Nat, i = .int .i64 (k : Int) ∧ k ≤ m ∧ h = .int .u64 (hashL ((kb key).take k))) (fun _ i => m - (intOf i).toNat)
  case atStart => exact ⟨0, rfl, by omega, rfl⟩
  case round =>
    obtain ⟨k, rfl, hk, rfl⟩ := hrel
    by_cases hlt : k < m
    · have hlt' : k < (kb key).length := by rw [HM.out]; exact hlt
      have i0 : (0 : Int) ≤ (k : Int) := by omega
      have i1 : (k : Int) < (m : Int) := by omega
      go_wp2
      go_round
      case rel =>
        refine ⟨k + 1, by go_num, by omega, ?_⟩
        have hb : (kb key)[k] = ((key[k]'(by rw [HKM.out]; exact hlt)).toNat : Int) := by simp [kb]; rfl
        have hlt2 : ((key[k]'(by rw [HKM.out]; exact hlt)).toNat : Int) < 256 := by have := (key[k]'(by rw [HKM.out]; exact hlt)).toNat_lt; omega
        rw [hashL_step _ k hlt', hb, hashStep]
        generalize (key[k]'(by rw [HKM.out]; exact hlt)).toNat = c at hlt2 ⊢
        rw [show IntKind.u64.wrap (c : Int) = (c : Int) by rw [IntKind.wrap_u64]; omega]
      case measure => simp [intOf]; omega
    · go_wp2
      go_ret
      have e : (kb key).take k = kb key := List.take_of_length_le (by rw [HM.out]; omega)
      exact ⟨by rw [e]; rfl, rfl⟩
end Go.Proofs.YtdiljpdohmeceaaGreat.co.cr
