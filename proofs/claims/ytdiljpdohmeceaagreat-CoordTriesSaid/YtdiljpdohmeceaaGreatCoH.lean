/- coord: how one who asks lies in memory. -/
import Derived.Test.YtdiljpdohmeceaaGreatCoP
import Derived.Test.YtdiljpdohmeceaaGreatBase
import Derived.ArgAppend
namespace Go.Proofs.YtdiljpdohmeceaaGreat.co
open Go.RowKit H O opk frame wir

/-- bytes behind a slice, off the blocks S -/
def BSl (S : List Nat) (w : World) (v : Value) (xs : List Int) : Prop := ∃ A c, v = .slice A xs.length c ∧ RdS S w A (iv .u8 xs) ∧ xs.length ≤ c ∧ c ≤ 9223372036854775807 ∧ (A = none → c = 0)
theorem BSl.kp {S S2 V : List Nat} {w w1 : World} {v : Value} {xs : List Int} (h : BSl S w v xs) (k : Kp V w w1) (hV : ∀ x ∈ V, x ∈ S ∨ w.heap.size ≤ x) (hS : ∀ x ∈ S2, x ∈ S ∨ w.heap.size ≤ x) : BSl S2 w1 v xs := by
  obtain ⟨A, c, rfl, h1, h2, h3, h4⟩ := h
  exact ⟨A, c, rfl, h1.kp2 k hV hS, h2, h3, h4⟩
theorem BSl.nil (S : List Nat) (w : World) : BSl S w (.slice none 0 0) [] := ⟨none, 0, rfl, (fun j v h => by simp [iv] at h), Nat.le_refl _, by omega, fun _ => rfl⟩
theorem BSl.own {S : List Nat} {w : World} {lo : Nat} {v : Value} {xs : List Int} (h : Own 5 .u8 w lo v xs) (hS : ∀ x ∈ S, x < lo ∨ w.heap.size ≤ x) : BSl S w v xs := by
  obtain ⟨A, c, rfl, h1, h2, h3, h4⟩ := own_rd h.1
  refine ⟨A, c, rfl, fun j u hu => ?_, h1, h2, h4⟩
  obtain ⟨a, rfl, hc⟩ := h3 j u hu
  have h9 := h.lt (g := a.block) rfl
  exact ⟨a, rfl, fun hm => by rcases hS _ hm with e | e <;> omega, hc⟩
/-- places behind a slice, off the blocks S -/
def MSl (S : List Nat) (w : World) (v : Value) (l : List (ByteArray × Int)) : Prop := ∃ A c, v = .slice A l.length c ∧ RdS S w A (mv l) ∧ l.length ≤ c ∧ c ≤ 9223372036854775807 ∧ (A = none → c = 0)
theorem MSl.kp {S S2 V : List Nat} {w w1 : World} {v : Value} {l : List (ByteArray × Int)} (h : MSl S w v l) (k : Kp V w w1) (hV : ∀ x ∈ V, x ∈ S ∨ w.heap.size ≤ x) (hS : ∀ x ∈ S2, x ∈ S ∨ w.heap.size ≤ x) : MSl S2 w1 v l := by
  obtain ⟨A, c, rfl, h1, h2, h3, h4⟩ := h
  exact ⟨A, c, rfl, h1.kp2 k hV hS, h2, h3, h4⟩
theorem MSl.nil (S : List Nat) (w : World) : MSl S w (.slice none 0 0) [] := ⟨none, 0, rfl, (fun j v h => by simp [mv] at h), Nat.le_refl _, by omega, fun _ => rfl⟩
theorem MSl.own {S : List Nat} {w : World} {v : Value} {l : List (ByteArray × Int)} (h : w.ownsRow 0 73 2 v l.length (mv l)) (hS : ∀ g, v.ownBlock = some g → g ∉ S) : MSl S w v l := by
  obtain ⟨A, c, rfl, h1, h2, h3, h4⟩ := own_rd h
  refine ⟨A, c, rfl, fun j u hu => ?_, h1, h2, h4⟩
  obtain ⟨a, rfl, hc⟩ := h3 j u hu
  exact ⟨a, rfl, hS _ rfl, hc⟩

/-- a job's block -/
def okind (j : Job) : Int := if j.kind = 1 then 1 else if j.kind = 2 then 2 else 0
def okey (j : Job) : ByteArray := if j.kind = 1 then j.key else if j.kind = 2 then j.key else ⟨#[]⟩
def otext (j : Job) : List Int := if j.kind = 1 then j.text else []
def ddat (j : Job) : List Int := if j.kind = 3 then kb j.key else if j.kind = 4 then j.text else []
def JobAt (S : List Nat) (w : World) (p : Nat) (id m : Nat) (j : Job) (MV AV : Value) : Prop :=
  ∃ tv dv, w.heap[p]? = some (.cells #[.int .i64 (m : Int), .int .i64 0, .bool false, .bool false, .slice none 0 0, MV, .int .i64 (wkind j), .int .i64 (okind j), .int .i64 (id : Int), .int .i64 ((m : Int) + 1), .string (okey j), tv, dv, AV] 92 (0, 0)) ∧
    BSl S w tv (otext j) ∧ BSl S w dv (ddat j)
theorem JobAt.kp {S S2 V : List Nat} {w w1 : World} {p id m : Nat} {j : Job} {MV AV : Value} (h : JobAt S w p id m j MV AV) (k : Kp V w w1) (hp : p ∉ V) (hV : ∀ x ∈ V, x ∈ S ∨ w.heap.size ≤ x) (hS : ∀ x ∈ S2, x ∈ S ∨ w.heap.size ≤ x) : JobAt S2 w1 p id m j MV AV := by
  obtain ⟨tv, dv, h1, h2, h3⟩ := h
  exact ⟨tv, dv, k.blk h1 hp, h2.kp k hV hS, h3.kp k hV hS⟩
/-- an ask's block -/
def AskAt (S : List Nat) (w : World) (p : Nat) (a : Ask) : Prop :=
  ∃ (kd : Int) (dv fv : Value), w.heap[p]? = some (.cells #[.int .i64 kd, .int .i64 (a.ctx : Int), .int .i64 (a.shard : Int), dv, fv, .int .i64 (a.waited : Int), .int .i64 (a.tried : Int), .bool a.hinted, .bool a.answered] 101 (0, 0)) ∧ BSl S w fv a.frame
theorem AskAt.kp {S S2 V : List Nat} {w w1 : World} {p : Nat} {a : Ask} (h : AskAt S w p a) (k : Kp V w w1) (hp : p ∉ V) (hV : ∀ x ∈ V, x ∈ S ∨ w.heap.size ≤ x) (hS : ∀ x ∈ S2, x ∈ S ∨ w.heap.size ≤ x) : AskAt S2 w1 p a := by
  obtain ⟨kd, dv, fv, h1, h2⟩ := h
  exact ⟨kd, dv, fv, k.blk h1 hp, h2.kp k hV hS⟩

/-- a queue of pointers: it may begin inside its row -/
def ptr (p : Nat) : Value := .pointer (some ⟨p, 0, none⟩)
def Que (w : World) (v : Value) (g : Option Nat) (ps : List Nat) : Prop :=
  (g = none ∧ v = .slice none 0 0 ∧ ps = []) ∨
  ∃ b o c cur, g = some b ∧ v = .slice (some ⟨b, o, none⟩) ps.length c ∧ w.heap[b]? = some (.cells cur 88 (0, 0)) ∧ ps.length ≤ c ∧ o + c ≤ cur.size ∧ c ≤ maxLen ∧ ∀ i p, ps[i]? = some p → cur[o + i]? = some (ptr p)
theorem Que.kp {V : List Nat} {w w1 : World} {v : Value} {g : Option Nat} {ps : List Nat} (h : Que w v g ps) (k : Kp V w w1) (hg : ∀ x, g = some x → x ∉ V) : Que w1 v g ps := by
  rcases h with h | ⟨b, o, c, cur, rfl, h2, h3, h4⟩
  · exact .inl h
  · exact .inr ⟨b, o, c, cur, rfl, h2, k.blk h3 (hg b rfl), h4⟩
theorem Que.lt {w : World} {v : Value} {g : Option Nat} {ps : List Nat} (h : Que w v g ps) : ∀ x, g = some x → x < w.heap.size := by
  rcases h with ⟨rfl, _⟩ | ⟨b, o, c, cur, rfl, h2, h3, h4⟩
  · intro x hx; cases hx
  · intro x hx; cases hx; exact lt_of_block h3
theorem Que.cell {w : World} {v : Value} {g : Option Nat} {ps : List Nat} (h : Que w v g ps) {i p : Nat} (hp : ps[i]? = some p) : ∃ b o c, v = .slice (some ⟨b, o, none⟩) ps.length c ∧ w.cell? ⟨b, o + i, none⟩ = some (ptr p) := by
  rcases h with ⟨_, _, rfl⟩ | ⟨b, o, c, cur, rfl, h2, h3, h4, h5, h6, h7⟩
  · simp at hp
  · exact ⟨b, o, c, h2, blk_cell h3 _ (h7 i p hp)⟩

/-- a result's cells -/
def ResOk (S : List Nat) (w : World) (r : Res) (vs : List Value) : Prop :=
  ∃ tv MV, vs = [.int .i64 (r.job : Int), .int .i64 r.err, .bool r.was, .bool r.has, tv, MV] ∧ BSl S w tv r.text ∧ MSl S w MV r.ms
theorem ResOk.kp {S S2 V : List Nat} {w w1 : World} {r : Res} {vs : List Value} (h : ResOk S w r vs) (k : Kp V w w1) (hV : ∀ x ∈ V, x ∈ S ∨ w.heap.size ≤ x) (hS : ∀ x ∈ S2, x ∈ S ∨ w.heap.size ≤ x) : ResOk S2 w1 r vs := by
  obtain ⟨tv, MV, h1, h2, h3⟩ := h
  exact ⟨tv, MV, h1, h2.kp k hV hS, h3.kp k hV hS⟩
/-- results' cells -/
def RsOk (S : List Nat) (w : World) : List Res → List Value → Prop
  | [], vs => vs = []
  | r :: l, vs => ∃ a b, vs = a ++ b ∧ ResOk S w r a ∧ RsOk S w l b
theorem RsOk.kp {S S2 V : List Nat} {w w1 : World} (k : Kp V w w1) (hV : ∀ x ∈ V, x ∈ S ∨ w.heap.size ≤ x) (hS : ∀ x ∈ S2, x ∈ S ∨ w.heap.size ≤ x) : ∀ {l : List Res} {vs : List Value}, RsOk S w l vs → RsOk S2 w1 l vs
  | [], _, h => h
  | _ :: _, _, ⟨a, b, h1, h2, h3⟩ => ⟨a, b, h1, h2.kp k hV hS, RsOk.kp k hV hS h3⟩
theorem RsOk.snoc {S : List Nat} {w : World} {r : Res} {a : List Value} (hr : ResOk S w r a) : ∀ {l : List Res} {vs : List Value}, RsOk S w l vs → RsOk S w (l ++ [r]) (vs ++ a)
  | [], vs, h => by
    obtain rfl : vs = [] := h
    exact ⟨a, [], by simp, hr, rfl⟩
  | _ :: _, _, ⟨p, q, h1, h2, h3⟩ => by
    subst h1
    exact ⟨p, q ++ a, by simp, h2, RsOk.snoc hr h3⟩
theorem RsOk.one {S : List Nat} {w : World} : ∀ {l : List Res} {vs : List Value}, RsOk S w l vs → ∀ u ∈ vs, u.oneCell' = true
  | [], _, h, u, hu => by
    cases h
    simp at hu
  | _ :: _, _, ⟨a, b, h1, h2, h3⟩, u, hu => by
    subst h1
    rcases List.mem_append.1 hu with h | h
    · obtain ⟨tv, MV, rfl, ⟨_, _, rfl, _⟩, ⟨_, _, rfl, _⟩⟩ := h2
      simp only [List.mem_cons, List.not_mem_nil, or_false] at h
      rcases h with rfl | rfl | rfl | rfl | rfl | rfl <;> rfl
    · exact RsOk.one h3 u h
def DoneAt (S : List Nat) (w : World) (v : Value) (g : Option Nat) (l : List Res) : Prop :=
  ∃ vs, w.ownsRow 0 61 6 v l.length vs ∧ v.ownBlock = g ∧ RsOk S w l vs
theorem DoneAt.kp {S S2 V : List Nat} {w w1 : World} {v : Value} {g : Option Nat} {l : List Res} (h : DoneAt S w v g l) (k : Kp V w w1) (hg : ∀ x, g = some x → x ∉ V) (hV : ∀ x ∈ V, x ∈ S ∨ w.heap.size ≤ x) (hS : ∀ x ∈ S2, x ∈ S ∨ w.heap.size ≤ x) : DoneAt S2 w1 v g l := by
  obtain ⟨vs, h1, rfl, h3⟩ := h
  exact ⟨vs, k.own h1 hg, rfl, h3.kp k hV hS⟩

/-- the shards' rows -/
def Shd (S : List Nat) (w : World) (v : Value) (l : List (List Int)) : Prop := ∃ A c, v = .slice A l.length c ∧ Ri S w A l ∧ l.length ≤ c ∧ c ≤ 9223372036854775807 ∧ (A = none → c = 0)
theorem Shd.kp {S S2 V : List Nat} {w w1 : World} {v : Value} {l : List (List Int)} (h : Shd S w v l) (k : Kp V w w1) (hV : ∀ x ∈ V, x ∈ S ∨ w.heap.size ≤ x) (hS : ∀ x ∈ S2, x ∈ S ∨ w.heap.size ≤ x) : Shd S2 w1 v l := by
  obtain ⟨A, c, rfl, h1, h2, h3, h4⟩ := h
  exact ⟨A, c, rfl, h1.kp k hV hS, h2, h3, h4⟩

/-- which blocks are a Coord's own -/
structure Lay where
  b : Nat
  gw : Nat
  gj : Option Nat
  gd : Option Nat
  ga : Option Nat
  gm : Option Nat
  js : List Nat
  az : List Nat
def Lay.all (L : Lay) : List Nat := L.b :: L.gw :: (L.gj.toList ++ L.gd.toList ++ L.ga.toList ++ L.gm.toList ++ L.js ++ L.az)
/-- they are apart; U: others' blocks -/
structure Sep (U : List Nat) (L : Lay) (κ : Nat → Nat) (n : Nat) : Prop where
  b : κ L.b = 1 ∧ L.b < n
  gw : κ L.gw = 2 ∧ L.gw < n
  gj : ∀ x, L.gj = some x → κ x = 3 ∧ x < n
  gd : ∀ x, L.gd = some x → κ x = 4 ∧ x < n
  ga : ∀ x, L.ga = some x → κ x = 5 ∧ x < n
  gm : ∀ x, L.gm = some x → κ x = 6 ∧ x < n
  js : ∀ x ∈ L.js, κ x = 7 ∧ x < n
  az : ∀ x ∈ L.az, κ x = 8 ∧ x < n
  jn : L.js.Nodup
  an : L.az.Nodup
  U : ∀ x ∈ U, κ x = 0 ∧ x < n
theorem Lay.mem {L : Lay} {x : Nat} : x ∈ L.all ↔ x = L.b ∨ x = L.gw ∨ L.gj = some x ∨ L.gd = some x ∨ L.ga = some x ∨ L.gm = some x ∨ x ∈ L.js ∨ x ∈ L.az := by
  simp [Lay.all]
theorem Sep.pos {U : List Nat} {L : Lay} {κ : Nat → Nat} {n x : Nat} (h : Sep U L κ n) (hx : x ∈ L.all) : 1 ≤ κ x ∧ x < n := by
  rcases Lay.mem.1 hx with rfl | rfl | e | e | e | e | e | e
  · have := h.b; omega
  · have := h.gw; omega
  · have := h.gj x e; omega
  · have := h.gd x e; omega
  · have := h.ga x e; omega
  · have := h.gm x e; omega
  · have := h.js x e; omega
  · have := h.az x e; omega
/-- others' blocks are others: and they may become more -/
theorem Sep.foreign {U U2 : List Nat} {L : Lay} {κ : Nat → Nat} {n m : Nat} (h : Sep U L κ n) (hm : n ≤ m) (hU : ∀ x ∈ U2, x ∈ U ∨ n ≤ x ∧ x < m) : Sep U2 L (fun x => if x < n then κ x else 0) m := by
  have lo : ∀ x c, κ x = c ∧ x < n → (if x < n then κ x else 0) = c ∧ x < m := fun x c hx => by rw [if_pos hx.2]; exact ⟨hx.1, by omega⟩
  refine ⟨lo _ _ h.b, lo _ _ h.gw, fun x e => lo _ _ (h.gj x e), fun x e => lo _ _ (h.gd x e), fun x e => lo _ _ (h.ga x e), fun x e => lo _ _ (h.gm x e), fun x e => lo _ _ (h.js x e), fun x e => lo _ _ (h.az x e), h.jn, h.an, fun x hx => ?_⟩
  show (if x < n then κ x else 0) = 0 ∧ x < m
  rcases hU x hx with e | e
  · have := h.U x e
    rw [if_pos this.2]
    exact ⟨this.1, by omega⟩
  · rw [if_neg (by omega)]
    exact ⟨rfl, e.2⟩
theorem Sep.grow {U : List Nat} {L : Lay} {κ : Nat → Nat} {n m : Nat} (h : Sep U L κ n) (hm : n ≤ m) : Sep U L κ m := by
  have lo : ∀ x c, κ x = c ∧ x < n → κ x = c ∧ x < m := fun x c hx => ⟨hx.1, by omega⟩
  exact ⟨lo _ _ h.b, lo _ _ h.gw, fun x e => lo _ _ (h.gj x e), fun x e => lo _ _ (h.gd x e), fun x e => lo _ _ (h.ga x e), fun x e => lo _ _ (h.gm x e), fun x e => lo _ _ (h.js x e), fun x e => lo _ _ (h.az x e), h.jn, h.an, fun x e => lo _ _ (h.U x e)⟩

/-- one who asks -/
structure CoP (U : List Nat) (w : World) (L : Lay) (cf : Cfg) (s : Cs) (κ : Nat → Nat) (VS VW VJ VD MV AV : Value) (l : List (ByteArray × Int)) : Prop where
  sep : Sep U L κ w.heap.size
  hd : w.heap[L.b]? = some (.cells #[.int .i64 (cf.id : Int), .int .i64 (cf.pat : Int), .int .i64 (cf.tries : Int), VS, VW, VJ, .int .i64 (nextJ s : Int), .int .i64 (s.ctx : Int), VD] 95 (0, 0))
  sh : Shd (L.all ++ U) w VS cf.shards
  wh : w.ownsRow 0 3 1 VW s.whom.length (iv .i64 (s.whom.map fun (n : Nat) => (n : Int))) ∧ VW.ownBlock = some L.gw
  jq : Que w VJ L.gj L.js
  dn : DoneAt (L.all ++ U) w VD L.gd s.done
  jl : L.js.length = s.jobs.length
  ja : ∀ (i : Nat) (j : Job) (p : Nat), s.jobs[i]? = some j → L.js[i]? = some p → JobAt (L.all ++ U) w p cf.id (s.ended + i) j (if i = 0 then MV else .slice none 0 0) (if i = 0 then AV else .slice none 0 0)
  al : L.az.length = s.asks.length
  aa : ∀ (i : Nat) (a : Ask) (p : Nat), s.asks[i]? = some a → L.az[i]? = some p → AskAt (L.all ++ U) w p a
  aq : w.ownsRow 0 97 1 AV L.az.length (L.az.map ptr) ∧ AV.ownBlock = L.ga
  mq : w.ownsRow 0 73 2 MV l.length (mv l) ∧ MV.ownBlock = L.gm ∧ l.Perm (s.asks.flatMap (·.ms))
  no : s.asks = [] → AV = .slice none 0 0 ∧ MV = .slice none 0 0
def CoSt (U : List Nat) (w : World) (L : Lay) (cf : Cfg) (s : Cs) : Prop := ∃ κ VS VW VJ VD MV AV l, CoP U w L cf s κ VS VW VJ VD MV AV l

/-- other blocks turn -/
theorem CoP.kp {U U2 V : List Nat} {w w1 : World} {L : Lay} {cf : Cfg} {s : Cs} {κ : Nat → Nat} {VS VW VJ VD MV AV : Value} {l : List (ByteArray × Int)} (h : CoP U w L cf s κ VS VW VJ VD MV AV l) (k : Kp V w w1)
    (hV : ∀ x ∈ V, x ∈ U ∨ w.heap.size ≤ x) (hU : ∀ x ∈ U2, x ∈ U ∨ w.heap.size ≤ x ∧ x < w1.heap.size) : CoP U2 w1 L cf s (fun x => if x < w.heap.size then κ x else 0) VS VW VJ VD MV AV l := by
  have nV : ∀ x, x ∈ L.all → x ∉ V := by
    intro x hx hm
    have h1 := h.sep.pos hx
    rcases hV x hm with e | e
    · have := (h.sep.U x e).1; omega
    · omega
  have hV' : ∀ x ∈ V, x ∈ L.all ++ U ∨ w.heap.size ≤ x := fun x hx => (hV x hx).imp (fun e => List.mem_append.2 (.inr e)) id
  have hS' : ∀ x ∈ L.all ++ U2, x ∈ L.all ++ U ∨ w.heap.size ≤ x := by
    intro x hx
    rcases List.mem_append.1 hx with e | e
    · exact .inl (List.mem_append.2 (.inl e))
    · exact (hU x e).imp (fun e => List.mem_append.2 (.inr e)) (fun e => e.1)
  have mem := fun x => (Lay.mem (L := L) (x := x)).2
  exact ⟨h.sep.foreign k.size hU, k.blk h.hd (nV _ (mem _ (.inl rfl))), h.sh.kp k hV' hS', ⟨k.own h.wh.1 (fun x e => nV x (mem x (.inr (.inl (by rw [h.wh.2] at e; exact (Option.some.inj e).symm))))), h.wh.2⟩,
    h.jq.kp k (fun x e => nV x (mem x (by simp [e]))), h.dn.kp k (fun x e => nV x (mem x (by simp [e]))) hV' hS', h.jl,
    fun i j p h1 h2 => (h.ja i j p h1 h2).kp k (nV p (mem p (by simp [List.mem_of_getElem? h2]))) hV' hS', h.al, fun i a p h1 h2 => (h.aa i a p h1 h2).kp k (nV p (mem p (by simp [List.mem_of_getElem? h2]))) hV' hS',
    ⟨k.own h.aq.1 (fun x e => nV x (mem x (by rw [h.aq.2] at e; simp [e]))), h.aq.2⟩, ⟨k.own h.mq.1 (fun x e => nV x (mem x (by rw [h.mq.2.1] at e; simp [e]))), h.mq.2⟩, h.no⟩
theorem CoSt.kp {U U2 V : List Nat} {w w1 : World} {L : Lay} {cf : Cfg} {s : Cs} (h : CoSt U w L cf s) (k : Kp V w w1) (hV : ∀ x ∈ V, x ∈ U ∨ w.heap.size ≤ x) (hU : ∀ x ∈ U2, x ∈ U ∨ w.heap.size ≤ x ∧ x < w1.heap.size) : CoSt U2 w1 L cf s := by
  obtain ⟨κ, VS, VW, VJ, VD, MV, AV, l, h⟩ := h
  exact ⟨_, _, _, _, _, _, _, _, h.kp k hV hU⟩
end Go.Proofs.YtdiljpdohmeceaaGreat.co
