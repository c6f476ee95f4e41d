/- MERGED: CoH CoB CoS CoT CoK CoU CoW CoX CoG -/
import Derived.Test.YtdiljpdohmeceaaGreatBasw
import Derived.Test.YtdiljpdohmeceaaGreatBase
import Derived.ArgAppend
import Derived.Deep.RegionHeld3
import Derived.Laws.ResultCell
import Derived.Deep.RegionLaw
/- coord: how one who asks lies in memory. -/
namespace Go.Proofs.YtdiljpdohmeceaaGreat.co
open Go.RowKit H O opk frame wir

/-- bytes behind a slice, off the blocks S -/
def BSl (S : List Nat) (w : World) (v : Value) (xs : List Int) : Prop := ∃ A c, v = .slice A xs.length c ∧ RdS S w A (iv .u8 xs) ∧ xs.length ≤ c ∧ c ≤ 9223372036854775807 ∧ (A = none → c = 0)
theorem BSl.kp {S S2 V : List Nat} {w w1 : World} {v : Value} {xs : List Int} (h : BSl S w v xs) (k : Kp V w w1) (hV : ∀ x ∈ V, x ∈ S ∨ w.heap.size ≤ x) (hS : ∀ x ∈ S2, x ∈ S ∨ w.heap.size ≤ x) : BSl S2 w1 v xs := by
  obtain ⟨A, c, rfl, h1, h2, h3, h4⟩ := h
  exact ⟨A, c, rfl, h1.kp2 k hV hS, h2, h3, h4⟩
theorem BSl.nil (S : List Nat) (w : World) : BSl S w (.slice none 0 0) [] := ⟨none, 0, rfl, (fun j v h => by simp [iv] at h), Nat.le_refl _, by omega, fun _ => rfl⟩
theorem BSl.own {S : List Nat} {w : World} {lo : Nat} {v : Value} {xs : List Int} (h : Own 5 .u8 w lo v xs) (hS : ∀ x ∈ S, x < lo ∨ w.heap.size ≤ x) : BSl S w v xs := by
  obtain ⟨A, c, rfl, h1, h2, h3, h4⟩ := own_rd h.1
  refine ⟨A, c, rfl, fun j u hu => ?_, h1, h2, h4⟩
  obtain ⟨a, rfl, hc⟩ := h3 j u hu
  have h9 := h.lt (g := a.block) rfl
  exact ⟨a, rfl, fun hm => by rcases hS _ hm with e | e <;> omega, hc⟩
/-- places behind a slice, off the blocks S -/
def MSl (S : List Nat) (w : World) (v : Value) (l : List (ByteArray × Int)) : Prop := ∃ A c, v = .slice A l.length c ∧ RdS S w A (mv l) ∧ l.length ≤ c ∧ c ≤ 9223372036854775807 ∧ (A = none → c = 0)
theorem MSl.kp {S S2 V : List Nat} {w w1 : World} {v : Value} {l : List (ByteArray × Int)} (h : MSl S w v l) (k : Kp V w w1) (hV : ∀ x ∈ V, x ∈ S ∨ w.heap.size ≤ x) (hS : ∀ x ∈ S2, x ∈ S ∨ w.heap.size ≤ x) : MSl S2 w1 v l := by
  obtain ⟨A, c, rfl, h1, h2, h3, h4⟩ := h
  exact ⟨A, c, rfl, h1.kp2 k hV hS, h2, h3, h4⟩
theorem MSl.nil (S : List Nat) (w : World) : MSl S w (.slice none 0 0) [] := ⟨none, 0, rfl, (fun j v h => by simp [mv] at h), Nat.le_refl _, by omega, fun _ => rfl⟩
theorem MSl.own {S : List Nat} {w : World} {v : Value} {l : List (ByteArray × Int)} (h : w.ownsRow 0 73 2 v l.length (mv l)) (hS : ∀ g, v.ownBlock = some g → g ∉ S) : MSl S w v l := by
  obtain ⟨A, c, rfl, h1, h2, h3, h4⟩ := own_rd h
  refine ⟨A, c, rfl, fun j u hu => ?_, h1, h2, h4⟩
  obtain ⟨a, rfl, hc⟩ := h3 j u hu
  exact ⟨a, rfl, hS _ rfl, hc⟩

/-- a job's block -/
def okind (j : Job) : Int := if j.kind = 1 then 1 else if j.kind = 2 then 2 else 0
def okey (j : Job) : ByteArray := if j.kind = 1 then j.key else if j.kind = 2 then j.key else ⟨#[]⟩
def otext (j : Job) : List Int := if j.kind = 1 then j.text else []
def ddat (j : Job) : List Int := if j.kind = 3 then kb j.key else if j.kind = 4 then j.text else []
def JobAt (S : List Nat) (w : World) (p : Nat) (id m : Nat) (j : Job) (MV AV : Value) : Prop :=
  ∃ tv dv, w.heap[p]? = some (.cells #[.int .i64 (m : Int), .int .i64 0, .bool false, .bool false, .slice none 0 0, MV, .int .i64 (wkind j), .int .i64 (okind j), .int .i64 (id : Int), .int .i64 ((m : Int) + 1), .string (okey j), tv, dv, AV] 92 (0, 0)) ∧
    BSl S w tv (otext j) ∧ BSl S w dv (ddat j)
theorem JobAt.kp {S S2 V : List Nat} {w w1 : World} {p id m : Nat} {j : Job} {MV AV : Value} (h : JobAt S w p id m j MV AV) (k : Kp V w w1) (hp : p ∉ V) (hV : ∀ x ∈ V, x ∈ S ∨ w.heap.size ≤ x) (hS : ∀ x ∈ S2, x ∈ S ∨ w.heap.size ≤ x) : JobAt S2 w1 p id m j MV AV := by
  obtain ⟨tv, dv, h1, h2, h3⟩ := h
  exact ⟨tv, dv, k.blk h1 hp, h2.kp k hV hS, h3.kp k hV hS⟩
/-- an ask's block -/
def AskAt (S : List Nat) (w : World) (p : Nat) (a : Ask) : Prop :=
  ∃ (kd : Int) (dv fv : Value), w.heap[p]? = some (.cells #[.int .i64 kd, .int .i64 (a.ctx : Int), .int .i64 (a.shard : Int), dv, fv, .int .i64 (a.waited : Int), .int .i64 (a.tried : Int), .bool a.hinted, .bool a.answered] 101 (0, 0)) ∧ BSl S w fv a.frame
theorem AskAt.kp {S S2 V : List Nat} {w w1 : World} {p : Nat} {a : Ask} (h : AskAt S w p a) (k : Kp V w w1) (hp : p ∉ V) (hV : ∀ x ∈ V, x ∈ S ∨ w.heap.size ≤ x) (hS : ∀ x ∈ S2, x ∈ S ∨ w.heap.size ≤ x) : AskAt S2 w1 p a := by
  obtain ⟨kd, dv, fv, h1, h2⟩ := h
  exact ⟨kd, dv, fv, k.blk h1 hp, h2.kp k hV hS⟩

/-- a queue of pointers: it may begin inside its row -/
def ptr (p : Nat) : Value := .pointer (some ⟨p, 0, none⟩)
def Que (w : World) (v : Value) (g : Option Nat) (ps : List Nat) : Prop :=
  (g = none ∧ v = .slice none 0 0 ∧ ps = []) ∨
  ∃ b o c cur, g = some b ∧ v = .slice (some ⟨b, o, none⟩) ps.length c ∧ w.heap[b]? = some (.cells cur 88 (0, 0)) ∧ ps.length ≤ c ∧ o + c ≤ cur.size ∧ c ≤ maxLen ∧ ∀ i p, ps[i]? = some p → cur[o + i]? = some (ptr p)
theorem Que.kp {V : List Nat} {w w1 : World} {v : Value} {g : Option Nat} {ps : List Nat} (h : Que w v g ps) (k : Kp V w w1) (hg : ∀ x, g = some x → x ∉ V) : Que w1 v g ps := by
  rcases h with h | ⟨b, o, c, cur, rfl, h2, h3, h4⟩
  · exact .inl h
  · exact .inr ⟨b, o, c, cur, rfl, h2, k.blk h3 (hg b rfl), h4⟩
theorem Que.lt {w : World} {v : Value} {g : Option Nat} {ps : List Nat} (h : Que w v g ps) : ∀ x, g = some x → x < w.heap.size := by
  rcases h with ⟨rfl, _⟩ | ⟨b, o, c, cur, rfl, h2, h3, h4⟩
  · intro x hx; cases hx
  · intro x hx; cases hx; exact lt_of_block h3
theorem Que.cell {w : World} {v : Value} {g : Option Nat} {ps : List Nat} (h : Que w v g ps) {i p : Nat} (hp : ps[i]? = some p) : ∃ b o c, v = .slice (some ⟨b, o, none⟩) ps.length c ∧ w.cell? ⟨b, o + i, none⟩ = some (ptr p) := by
  rcases h with ⟨_, _, rfl⟩ | ⟨b, o, c, cur, rfl, h2, h3, h4, h5, h6, h7⟩
  · simp at hp
  · exact ⟨b, o, c, h2, blk_cell h3 _ (h7 i p hp)⟩

/-- a result's cells -/
def ResOk (S : List Nat) (w : World) (r : Res) (vs : List Value) : Prop :=
  ∃ tv MV, vs = [.int .i64 (r.job : Int), .int .i64 r.err, .bool r.was, .bool r.has, tv, MV] ∧ BSl S w tv r.text ∧ MSl S w MV r.ms
theorem ResOk.kp {S S2 V : List Nat} {w w1 : World} {r : Res} {vs : List Value} (h : ResOk S w r vs) (k : Kp V w w1) (hV : ∀ x ∈ V, x ∈ S ∨ w.heap.size ≤ x) (hS : ∀ x ∈ S2, x ∈ S ∨ w.heap.size ≤ x) : ResOk S2 w1 r vs := by
  obtain ⟨tv, MV, h1, h2, h3⟩ := h
  exact ⟨tv, MV, h1, h2.kp k hV hS, h3.kp k hV hS⟩
/-- results' cells -/
def RsOk (S : List Nat) (w : World) : List Res → List Value → Prop
  | [], vs => vs = []
  | r :: l, vs => ∃ a b, vs = a ++ b ∧ ResOk S w r a ∧ RsOk S w l b
theorem RsOk.kp {S S2 V : List Nat} {w w1 : World} (k : Kp V w w1) (hV : ∀ x ∈ V, x ∈ S ∨ w.heap.size ≤ x) (hS : ∀ x ∈ S2, x ∈ S ∨ w.heap.size ≤ x) : ∀ {l : List Res} {vs : List Value}, RsOk S w l vs → RsOk S2 w1 l vs
  | [], _, h => h
  | _ :: _, _, ⟨a, b, h1, h2, h3⟩ => ⟨a, b, h1, h2.kp k hV hS, RsOk.kp k hV hS h3⟩
theorem RsOk.snoc {S : List Nat} {w : World} {r : Res} {a : List Value} (hr : ResOk S w r a) : ∀ {l : List Res} {vs : List Value}, RsOk S w l vs → RsOk S w (l ++ [r]) (vs ++ a)
  | [], vs, h => by
    obtain rfl : vs = [] := h
    exact ⟨a, [], by simp, hr, rfl⟩
  | _ :: _, _, ⟨p, q, h1, h2, h3⟩ => by
    subst h1
    exact ⟨p, q ++ a, by simp, h2, RsOk.snoc hr h3⟩
theorem RsOk.one {S : List Nat} {w : World} : ∀ {l : List Res} {vs : List Value}, RsOk S w l vs → ∀ u ∈ vs, u.oneCell' = true
  | [], _, h, u, hu => by
    cases h
    simp at hu
  | _ :: _, _, ⟨a, b, h1, h2, h3⟩, u, hu => by
    subst h1
    rcases List.mem_append.1 hu with h | h
    · obtain ⟨tv, MV, rfl, ⟨_, _, rfl, _⟩, ⟨_, _, rfl, _⟩⟩ := h2
      simp only [List.mem_cons, List.not_mem_nil, or_false] at h
      rcases h with rfl | rfl | rfl | rfl | rfl | rfl <;> rfl
    · exact RsOk.one h3 u h
def DoneAt (S : List Nat) (w : World) (v : Value) (g : Option Nat) (l : List Res) : Prop :=
  ∃ vs, w.ownsRow 0 61 6 v l.length vs ∧ v.ownBlock = g ∧ RsOk S w l vs
theorem DoneAt.kp {S S2 V : List Nat} {w w1 : World} {v : Value} {g : Option Nat} {l : List Res} (h : DoneAt S w v g l) (k : Kp V w w1) (hg : ∀ x, g = some x → x ∉ V) (hV : ∀ x ∈ V, x ∈ S ∨ w.heap.size ≤ x) (hS : ∀ x ∈ S2, x ∈ S ∨ w.heap.size ≤ x) : DoneAt S2 w1 v g l := by
  obtain ⟨vs, h1, rfl, h3⟩ := h
  exact ⟨vs, k.own h1 hg, rfl, h3.kp k hV hS⟩

/-- the shards' rows -/
def Shd (S : List Nat) (w : World) (v : Value) (l : List (List Int)) : Prop := ∃ A c, v = .slice A l.length c ∧ Ri S w A l ∧ l.length ≤ c ∧ c ≤ 9223372036854775807 ∧ (A = none → c = 0)
theorem Shd.kp {S S2 V : List Nat} {w w1 : World} {v : Value} {l : List (List Int)} (h : Shd S w v l) (k : Kp V w w1) (hV : ∀ x ∈ V, x ∈ S ∨ w.heap.size ≤ x) (hS : ∀ x ∈ S2, x ∈ S ∨ w.heap.size ≤ x) : Shd S2 w1 v l := by
  obtain ⟨A, c, rfl, h1, h2, h3, h4⟩ := h
  exact ⟨A, c, rfl, h1.kp k hV hS, h2, h3, h4⟩

/-- which blocks are a Coord's own -/
structure Lay where
  b : Nat
  gw : Nat
  gj : Option Nat
  gd : Option Nat
  ga : Option Nat
  gm : Option Nat
  js : List Nat
  az : List Nat
def Lay.all (L : Lay) : List Nat := L.b :: L.gw :: (L.gj.toList ++ L.gd.toList ++ L.ga.toList ++ L.gm.toList ++ L.js ++ L.az)
/-- they are apart; U: others' blocks -/
structure Sep (U : List Nat) (L : Lay) (κ : Nat → Nat) (n : Nat) : Prop where
  b : κ L.b = 1 ∧ L.b < n
  gw : κ L.gw = 2 ∧ L.gw < n
  gj : ∀ x, L.gj = some x → κ x = 3 ∧ x < n
  gd : ∀ x, L.gd = some x → κ x = 4 ∧ x < n
  ga : ∀ x, L.ga = some x → κ x = 5 ∧ x < n
  gm : ∀ x, L.gm = some x → κ x = 6 ∧ x < n
  js : ∀ x ∈ L.js, κ x = 7 ∧ x < n
  az : ∀ x ∈ L.az, κ x = 8 ∧ x < n
  jn : L.js.Nodup
  an : L.az.Nodup
  U : ∀ x ∈ U, κ x = 0 ∧ x < n
theorem Lay.mem {L : Lay} {x : Nat} : x ∈ L.all ↔ x = L.b ∨ x = L.gw ∨ L.gj = some x ∨ L.gd = some x ∨ L.ga = some x ∨ L.gm = some x ∨ x ∈ L.js ∨ x ∈ L.az := by
  simp [Lay.all]
theorem Sep.pos {U : List Nat} {L : Lay} {κ : Nat → Nat} {n x : Nat} (h : Sep U L κ n) (hx : x ∈ L.all) : 1 ≤ κ x ∧ x < n := by
  rcases Lay.mem.1 hx with rfl | rfl | e | e | e | e | e | e
  · have := h.b; omega
  · have := h.gw; omega
  · have := h.gj x e; omega
  · have := h.gd x e; omega
  · have := h.ga x e; omega
  · have := h.gm x e; omega
  · have := h.js x e; omega
  · have := h.az x e; omega
/-- others' blocks are others: and they may become more -/
theorem Sep.foreign {U U2 : List Nat} {L : Lay} {κ : Nat → Nat} {n m : Nat} (h : Sep U L κ n) (hm : n ≤ m) (hU : ∀ x ∈ U2, x ∈ U ∨ n ≤ x ∧ x < m) : Sep U2 L (fun x => if x < n then κ x else 0) m := by
  have lo : ∀ x c, κ x = c ∧ x < n → (if x < n then κ x else 0) = c ∧ x < m := fun x c hx => by rw [if_pos hx.2]; exact ⟨hx.1, by omega⟩
  refine ⟨lo _ _ h.b, lo _ _ h.gw, fun x e => lo _ _ (h.gj x e), fun x e => lo _ _ (h.gd x e), fun x e => lo _ _ (h.ga x e), fun x e => lo _ _ (h.gm x e), fun x e => lo _ _ (h.js x e), fun x e => lo _ _ (h.az x e), h.jn, h.an, fun x hx => ?_⟩
  show (if x < n then κ x else 0) = 0 ∧ x < m
  rcases hU x hx with e | e
  · have := h.U x e
    rw [if_pos this.2]
    exact ⟨this.1, by omega⟩
  · rw [if_neg (by omega)]
    exact ⟨rfl, e.2⟩
theorem Sep.grow {U : List Nat} {L : Lay} {κ : Nat → Nat} {n m : Nat} (h : Sep U L κ n) (hm : n ≤ m) : Sep U L κ m := by
  have lo : ∀ x c, κ x = c ∧ x < n → κ x = c ∧ x < m := fun x c hx => ⟨hx.1, by omega⟩
  exact ⟨lo _ _ h.b, lo _ _ h.gw, fun x e => lo _ _ (h.gj x e), fun x e => lo _ _ (h.gd x e), fun x e => lo _ _ (h.ga x e), fun x e => lo _ _ (h.gm x e), fun x e => lo _ _ (h.js x e), fun x e => lo _ _ (h.az x e), h.jn, h.an, fun x e => lo _ _ (h.U x e)⟩

/-- one who asks -/
structure CoP (U : List Nat) (w : World) (L : Lay) (cf : Cfg) (s : Cs) (κ : Nat → Nat) (VS VW VJ VD MV AV : Value) (l : List (ByteArray × Int)) : Prop where
  sep : Sep U L κ w.heap.size
  hd : w.heap[L.b]? = some (.cells #[.int .i64 (cf.id : Int), .int .i64 (cf.pat : Int), .int .i64 (cf.tries : Int), VS, VW, VJ, .int .i64 (nextJ s : Int), .int .i64 (s.ctx : Int), VD] 95 (0, 0))
  sh : Shd (L.all ++ U) w VS cf.shards
  wh : w.ownsRow 0 3 1 VW s.whom.length (iv .i64 (s.whom.map fun (n : Nat) => (n : Int))) ∧ VW.ownBlock = some L.gw
  jq : Que w VJ L.gj L.js
  dn : DoneAt (L.all ++ U) w VD L.gd s.done
  jl : L.js.length = s.jobs.length
  ja : ∀ (i : Nat) (j : Job) (p : Nat), s.jobs[i]? = some j → L.js[i]? = some p → JobAt (L.all ++ U) w p cf.id (s.ended + i) j (if i = 0 then MV else .slice none 0 0) (if i = 0 then AV else .slice none 0 0)
  al : L.az.length = s.asks.length
  aa : ∀ (i : Nat) (a : Ask) (p : Nat), s.asks[i]? = some a → L.az[i]? = some p → AskAt (L.all ++ U) w p a
  aq : w.ownsRow 0 97 1 AV L.az.length (L.az.map ptr) ∧ AV.ownBlock = L.ga
  mq : w.ownsRow 0 73 2 MV l.length (mv l) ∧ MV.ownBlock = L.gm ∧ l.Perm (s.asks.flatMap (·.ms))
  no : s.asks = [] → AV = .slice none 0 0 ∧ MV = .slice none 0 0
def CoSt (U : List Nat) (w : World) (L : Lay) (cf : Cfg) (s : Cs) : Prop := ∃ κ VS VW VJ VD MV AV l, CoP U w L cf s κ VS VW VJ VD MV AV l

/-- other blocks turn -/
theorem CoP.kp {U U2 V : List Nat} {w w1 : World} {L : Lay} {cf : Cfg} {s : Cs} {κ : Nat → Nat} {VS VW VJ VD MV AV : Value} {l : List (ByteArray × Int)} (h : CoP U w L cf s κ VS VW VJ VD MV AV l) (k : Kp V w w1)
    (hV : ∀ x ∈ V, x ∈ U ∨ w.heap.size ≤ x) (hU : ∀ x ∈ U2, x ∈ U ∨ w.heap.size ≤ x ∧ x < w1.heap.size) : CoP U2 w1 L cf s (fun x => if x < w.heap.size then κ x else 0) VS VW VJ VD MV AV l := by
  have nV : ∀ x, x ∈ L.all → x ∉ V := by
    intro x hx hm
    have h1 := h.sep.pos hx
    rcases hV x hm with e | e
    · have := (h.sep.U x e).1; omega
    · omega
  have hV' : ∀ x ∈ V, x ∈ L.all ++ U ∨ w.heap.size ≤ x := fun x hx => (hV x hx).imp (fun e => List.mem_append.2 (.inr e)) id
  have hS' : ∀ x ∈ L.all ++ U2, x ∈ L.all ++ U ∨ w.heap.size ≤ x := by
    intro x hx
    rcases List.mem_append.1 hx with e | e
    · exact .inl (List.mem_append.2 (.inl e))
    · exact (hU x e).imp (fun e => List.mem_append.2 (.inr e)) (fun e => e.1)
  have mem := fun x => (Lay.mem (L := L) (x := x)).2
  exact ⟨h.sep.foreign k.size hU, k.blk h.hd (nV _ (mem _ (.inl rfl))), h.sh.kp k hV' hS', ⟨k.own h.wh.1 (fun x e => nV x (mem x (.inr (.inl (by rw [h.wh.2] at e; exact (Option.some.inj e).symm))))), h.wh.2⟩,
    h.jq.kp k (fun x e => nV x (mem x (by simp [e]))), h.dn.kp k (fun x e => nV x (mem x (by simp [e]))) hV' hS', h.jl,
    fun i j p h1 h2 => (h.ja i j p h1 h2).kp k (nV p (mem p (by simp [List.mem_of_getElem? h2]))) hV' hS', h.al, fun i a p h1 h2 => (h.aa i a p h1 h2).kp k (nV p (mem p (by simp [List.mem_of_getElem? h2]))) hV' hS',
    ⟨k.own h.aq.1 (fun x e => nV x (mem x (by rw [h.aq.2] at e; simp [e]))), h.aq.2⟩, ⟨k.own h.mq.1 (fun x e => nV x (mem x (by rw [h.mq.2.1] at e; simp [e]))), h.mq.2⟩, h.no⟩
theorem CoSt.kp {U U2 V : List Nat} {w w1 : World} {L : Lay} {cf : Cfg} {s : Cs} (h : CoSt U w L cf s) (k : Kp V w w1) (hV : ∀ x ∈ V, x ∈ U ∨ w.heap.size ≤ x) (hU : ∀ x ∈ U2, x ∈ U ∨ w.heap.size ≤ x ∧ x < w1.heap.size) : CoSt U2 w1 L cf s := by
  obtain ⟨κ, VS, VW, VJ, VD, MV, AV, l, h⟩ := h
  exact ⟨_, _, _, _, _, _, _, _, h.kp k hV hU⟩
end Go.Proofs.YtdiljpdohmeceaaGreat.co

/- slices.Clone of bytes. -/
namespace Go.Proofs.YtdiljpdohmeceaaGreat.co
open Go.RowKit H O opk frame

theorem cloneb_any (A : Option Addr) (n c : Nat) (xs : List Int) (w : World) (hn : xs.length = n) (h0 : Rd w A (iv .u8 xs)) (hnil : A = none → c = 0) (hb : n ≤ 140737488351232) :
    Calls Tryz.prog 29 #[.slice A n c] w (RetOwn 5 .u8 w xs) := by
  subst hn
  have H0 := As.mk h0
  have HN := As.mk hnil
  clear h0 hnil
  cases A with
  | none =>
    have hx : xs = [] := iv_nil (rd_nil_of_none H0.out)
    subst hx
    have hc := HN.out rfl
    subst hc
    have hq := fun (w : World) => Lib.run_eql_slice_nil (P := Tryz.prog) w 24 5 none 0 0 0 0 Tryz.underlying24
    go_enter Tryz.func29, Tryz.ntmps29
    go_wp2
    go_ret
    exact ⟨_, rfl, Own.nil _ _ _ _, Kp.refl _ _⟩
  | some a =>
    have hq := fun (w : World) => Lib.run_eql_slice_nil (P := Tryz.prog) w 24 5 (some a) xs.length c 0 0 Tryz.underlying24
    go_enter Tryz.func29, Tryz.ntmps29
    go_wp2_with (at_builtin; refine clone.app8 rfl (.tmp 5) (.tmp 6) rfl (.slice (some ⟨w.heap.size, 0, none⟩) 0 0) 0 [] rfl (own_new w [] _ (Nat.zero_le _)) (some a) xs.length c (iv .u8 xs) rfl (by rw [iv_len]) (((Kp.refl [] w).alloc _).rd_new H0.out (by simp)) HN.out (iv_one _ _) (by omega) ?_; intro v1 w1 o1 k1 a1; have HO1 := As.mk o1; have HK1 := As.mk k1; have HA1 := As.mk a1; clear o1 k1 a1)
    go_ret
    exact ⟨_, rfl, own_of_app rfl HO1.out HA1.out (by simp) (by intro x hx; simp [Value.ownBlock] at hx; omega), kp_of_new HK1.out⟩
end Go.Proofs.YtdiljpdohmeceaaGreat.co

/- coord: what is sent: (*Coord).sends, (*Coord).tried. -/
namespace Go.Proofs.YtdiljpdohmeceaaGreat.co
open Go.RowKit H O opk frame wir

/-- a message's block -/
def M3 (w : World) (R : Nat) (a b v : Value) : Prop := w.heap[R]? = some (.cells #[a, b, v] 44)
theorem M3.kp {S : List Nat} {w w1 : World} {R : Nat} {a b v : Value} (h : M3 w R a b v) (hk : Kp S w w1) (hb : R ∉ S) : M3 w1 R a b v := hk.blk h hb
theorem M3.set {w : World} {R : Nat} {a b v : Value} (h : M3 w R a b v) (a2 b2 v2 : Value) :
    M3 (((w.setCell ⟨R, 0, none⟩ a2).setCell ⟨R, 1, none⟩ b2).setCell ⟨R, 2, none⟩ v2) R a2 b2 v2 ∧ Kp [R] w (((w.setCell ⟨R, 0, none⟩ a2).setCell ⟨R, 1, none⟩ b2).setCell ⟨R, 2, none⟩ v2) := by
  have e1 : M3 (w.setCell ⟨R, 0, none⟩ a2) R a2 b v := heap_setCell_same w R 0 _ _ a2 h
  have e2 : M3 ((w.setCell ⟨R, 0, none⟩ a2).setCell ⟨R, 1, none⟩ b2) R a2 b2 v := heap_setCell_same _ R 1 _ _ b2 e1
  exact ⟨heap_setCell_same _ R 2 _ _ v2 e2, (((Kp.refl _ w).setCell (.inl (by simp)) _).setCell (.inl (by simp)) _).setCell (.inl (by simp)) _⟩
theorem M3.res {fn : Func} {tmps : Array Value} {w : World} {R : Nat} {a b v : Value} (h : M3 w R a b v) (hf : fn.results = #[.cell 4 44]) (h2 : tmps.getD 4 undef = .pointer (some ⟨R, 0, none⟩)) :
    (results fn tmps).run Tryz.prog w = .ok (.agg #[a, b, v]) w :=
  results_cell_row hf tmps w R _ _ (0, 0) _ h2 h Tryz.underlying44 rfl (by kernel_rfl)

/-- a row's own row, its address written out -/
theorem ri_at {S : List Nat} {w : World} {A : Option Addr} {l : List (List Int)} (h : Ri S w A l) (j : Nat) (hj : j < l.length) : ∃ b o Aj cj, A = some ⟨b, o, none⟩ ∧ b ∉ S ∧ w.cell? ⟨b, o + j, none⟩ = some (.slice Aj l[j].length cj) ∧ l[j].length ≤ cj ∧ RdS S w Aj (iv .i64 l[j]) := by
  obtain ⟨a, Aj, cj, ha, h0, c0, h1, _, h2⟩ := h j hj
  obtain ⟨z, _, _, hz, _, cz, _⟩ := h 0 (by omega)
  rw [ha] at hz
  cases hz
  obtain ⟨b, o, s⟩ := a
  obtain rfl : s = none := by simpa [Addr.add] using World.cell?_spot cz
  rw [Go.WideShapes.add_plain] at c0
  exact ⟨b, o, Aj, cj, ha, h0, c0, h1, h2⟩

theorem nodup_idx {l : List Nat} (h : l.Nodup) {i j x : Nat} (hi : l[i]? = some x) (hj : l[j]? = some x) : i = j := by
  obtain ⟨l1, e1⟩ := List.getElem?_eq_some_iff.1 hi
  obtain ⟨l2, e2⟩ := List.getElem?_eq_some_iff.1 hj
  have hp := List.pairwise_iff_getElem.1 h
  rcases Nat.lt_trichotomy i j with e | e | e
  · exact absurd (e1.trans e2.symm) (hp i j l1 l2 e)
  · exact e
  · exact absurd (e2.trans e1.symm) (hp j i l2 l1 e)
/-- where an ask goes: what the walk reads -/
theorem CoP.dest {U : List Nat} {w : World} {L : Lay} {cf : Cfg} {s : Cs} {κ : Nat → Nat} {VS VW VJ VD MV AV : Value} {l : List (ByteArray × Int)} (h : CoP U w L cf s κ VS VW VJ VD MV AV l) (ok : CsOk cf s) {sh : Nat} (hs : sh < cf.shards.length) :
    ∃ (b o cS Ab Ao nj cj cw wi : Nat), VS = .slice (some ⟨b, o, none⟩) cf.shards.length cS ∧ b ∉ L.all ++ U ∧ w.cell? ⟨b, o + sh, none⟩ = some (.slice (some ⟨Ab, Ao, none⟩) nj cj) ∧ Ab ∉ L.all ++ U ∧
      VW = .slice (some ⟨L.gw, 0, none⟩) s.whom.length cw ∧ w.cell? ⟨L.gw, sh, none⟩ = some (.int .i64 (wi : Int)) ∧ w.frozen? ⟨L.gw, sh, none⟩ = false ∧ s.whom.getD sh 0 = wi ∧ wi < nj ∧ nj ≤ 7 ∧ (cf.shards.getD sh []).length = nj ∧
      (∀ k, k < nj → w.cell? ⟨Ab, Ao + k, none⟩ = some (.int .i64 ((cf.shards.getD sh []).getD k 0))) := by
  obtain ⟨A, cS, rfl, hri, _, _, _⟩ := h.sh
  obtain ⟨b, o, Aj, cj, rfl, hb, c0, _, hrd⟩ := ri_at hri sh hs
  have hw : sh < s.whom.length := by rw [ok.wlen]; exact hs
  have hlt := ok.whom sh hw hs
  have hg := (ok.cfg.grp _ (List.getElem_mem hs)).1
  have e1 : cf.shards.getD sh [] = cf.shards[sh] := by simp [List.getD, hs]
  have e2 : s.whom.getD sh 0 = s.whom[sh] := by simp [List.getD, hw]
  obtain ⟨ho, hbk⟩ := h.wh
  obtain ⟨g, cw, rfl, _, _⟩ := own_form ho (by omega)
  have hgw : g = L.gw := by simpa [Value.ownBlock] using hbk
  subst hgw
  have cw1 := ho.cellAt sh (by omega)
  rw [show (iv .i64 (s.whom.map fun (n : Nat) => (n : Int)))[sh]? = some (.int .i64 (s.whom[sh] : Int)) from by simp [iv, hw]] at cw1
  obtain ⟨b2, o2, rfl, c2⟩ := int_at hrd.rd 0 (by omega)
  obtain ⟨a', ha', hn', _⟩ := hrd 0 _ (iv_get .i64 cf.shards[sh] 0 (by omega))
  cases ha'
  refine ⟨b, o, cS, b2, o2, cf.shards[sh].length, cj, cw, s.whom[sh], rfl, hb, c0, hn', rfl, cw1, ho.frozenAt sh, e2, hlt, hg.2, by rw [e1], fun k hk => ?_⟩
  obtain ⟨b3, o3, e3, c3⟩ := int_at hrd.rd k hk
  cases e3
  rw [c3, e1]
  simp [List.getD, hk]

/-- an ask turns -/
theorem CoP.ask {U : List Nat} {w w1 : World} {L : Lay} {cf : Cfg} {s : Cs} {κ : Nat → Nat} {VS VW VJ VD MV AV : Value} {l : List (ByteArray × Int)} (h : CoP U w L cf s κ VS VW VJ VD MV AV l) {i p : Nat} {a a' : Ask} (hp : L.az[i]? = some p) (ha : s.asks[i]? = some a)
    (k : Kp [p] w w1) (hn : AskAt (L.all ++ U) w1 p a') (hms : a'.ms = a.ms) : CoP U w1 L cf { s with asks := s.asks.set i a' } κ VS VW VJ VD MV AV l := by
  have hk8 := h.sep.az p (List.mem_of_getElem? hp)
  have hpa : p ∈ L.all := Lay.mem.2 (by simp [List.mem_of_getElem? hp])
  have hV' : ∀ x ∈ [p], x ∈ L.all ++ U ∨ w.heap.size ≤ x := fun x hx => by
    simp only [List.mem_singleton] at hx
    subst hx
    exact .inl (List.mem_append.2 (.inl hpa))
  have hS' : ∀ x ∈ L.all ++ U, x ∈ L.all ++ U ∨ w.heap.size ≤ x := fun x hx => .inl hx
  have ne : ∀ x c, κ x = c → c ≠ 8 → x ∉ [p] := fun x c hx hc hm => by
    simp only [List.mem_singleton] at hm
    subst hm
    omega
  have hlen : i < s.asks.length := (List.getElem?_eq_some_iff.1 ha).1
  have hai : s.asks[i] = a := (List.getElem?_eq_some_iff.1 ha).2
  refine ⟨h.sep.grow k.size, k.blk h.hd (ne _ _ h.sep.b.1 (by decide)), h.sh.kp k hV' hS', ⟨k.own h.wh.1 (fun x e => ?_), h.wh.2⟩,
    h.jq.kp k (fun x e => ne _ _ (h.sep.gj x e).1 (by decide)), h.dn.kp k (fun x e => ne _ _ (h.sep.gd x e).1 (by decide)) hV' hS', h.jl,
    fun i j q h1 h2 => (h.ja i j q h1 h2).kp k (ne _ _ (h.sep.js q (List.mem_of_getElem? h2)).1 (by decide)) hV' hS', by rw [List.length_set]; exact h.al, fun i2 a2 p2 h1 h2 => ?_,
    ⟨k.own h.aq.1 (fun x e => ne _ _ (h.sep.ga x (by rw [← h.aq.2]; exact e)).1 (by decide)), h.aq.2⟩, ⟨k.own h.mq.1 (fun x e => ne _ _ (h.sep.gm x (by rw [← h.mq.2.1]; exact e)).1 (by decide)), h.mq.2.1, ?_⟩, ?_⟩
  · rw [h.wh.2] at e
    cases e
    exact ne _ _ h.sep.gw.1 (by decide)
  · by_cases e : i2 = i
    · subst e
      rw [hp] at h2
      cases h2
      rw [show (s.asks.set i2 a')[i2]? = some a' from by simp [hlen]] at h1
      cases h1
      exact hn
    · have h1' : s.asks[i2]? = some a2 := by
        have h1 : (s.asks.set i a')[i2]? = some a2 := h1
        rwa [List.getElem?_set_ne (by omega)] at h1
      refine (h.aa i2 a2 p2 h1' h2).kp k (fun hm => ?_) hV' hS'
      simp only [List.mem_singleton] at hm
      subst hm
      exact e (nodup_idx h.sep.an h2 hp)
  · have e : (s.asks.set i a').flatMap (·.ms) = s.asks.flatMap (·.ms) := by
      have e1 : (s.asks.set i a').map (·.ms) = s.asks.map (·.ms) := by
        rw [List.map_set, hms]
        refine List.ext_getElem? fun n => ?_
        by_cases en : n = i
        · subst en
          rw [List.getElem?_set_self (by simpa using hlen)]
          simp [hlen, hai]
        · rw [List.getElem?_set_ne (by omega)]
      rw [List.flatMap_def, List.flatMap_def, e1]
    show l.Perm ((s.asks.set i a').flatMap (·.ms))
    rw [e]
    exact h.mq.2.2
  · intro e
    refine h.no ?_
    have e : s.asks.set i a' = [] := e
    have := congrArg List.length e
    rw [List.length_set] at this
    exact List.eq_nil_of_length_eq_zero this
end Go.Proofs.YtdiljpdohmeceaaGreat.co

/- coord: (*Coord).sends, (*Coord).tried. -/
namespace Go.Proofs.YtdiljpdohmeceaaGreat.co
open Go.RowKit H O opk frame wir

/-- behind sends, tried: the ask turned to a' -/
def SendPost (U : List Nat) (L : Lay) (cf : Cfg) (s : Cs) (i p : Nat) (a a' : Ask) (w : World) (e : Ending) (w' : World) : Prop :=
  ∃ v, e = .returned (.agg #[.int .i64 (cf.id : Int), .int .i64 (dest cf s.whom a.shard), v]) ∧ BSl (L.all ++ U) w' v a.frame ∧ CoSt U w' L cf { s with asks := s.asks.set i a' } ∧ Kp [p] w w'

set_option maxHeartbeats 4000000 in
set_option maxRecDepth 100000 in
theorem sends_any (U : List Nat) (w : World) (L : Lay) (cf : Cfg) (s : Cs) (i p : Nat) (a : Ask) (hC : CoSt U w L cf s) (ok : CsOk cf s) (hp : L.az[i]? = some p) (ha : s.asks[i]? = some a) :
    Calls Tryz.prog 48 #[.pointer (some ⟨L.b, 0, none⟩), .pointer (some ⟨p, 0, none⟩)] w (SendPost U L cf s i p a { a with waited := 0 } w) := by
  obtain ⟨κ, VS, VW, VJ, VD, MV, AV, l, h⟩ := hC
  have aok := ok.asks a (List.mem_of_getElem? ha)
  obtain ⟨b, o, cS, Ab, Ao, nj, cj, cw, wi, rfl, hb, c0, hAb, rfl, cw1, fw1, e2, hlt, h7, e7, c2⟩ := h.dest ok aok.shard
  obtain ⟨kd, dv, fv, hbp, hbs⟩ := h.aa i a p ha hp
  obtain ⟨Af, cF, rfl, hrf, hcf, hcm, hnf⟩ := hbs
  have x0 : w.cell? ⟨p, 5, none⟩ = some (.int .i64 (a.waited : Int)) := blk_cell hbp 5 rfl
  have f0 := blk_free hbp 5
  have hpl : p < w.heap.size := lt_of_block hbp
  have hpn : ¬ p = w.heap.size := by omega
  have hwl := ok.wlen
  have i0 : (0 : Int) ≤ (a.shard : Int) := by omega
  have i1 : (a.shard : Int) < (cf.shards.length : Int) := by have := aok.shard; omega
  have i2 : (a.shard : Int) < (s.whom.length : Int) := by have := aok.shard; omega
  have i3 : (0 : Int) ≤ (wi : Int) := by omega
  have i4 : (wi : Int) < (nj : Int) := by omega
  obtain ⟨W1, hW1⟩ : ∃ W1, W1 = (w.setCell ⟨p, 5, none⟩ (.int .i64 0)).alloc (.cells #[.int .i64 0, .int .i64 0, .slice none 0 0] 44) := ⟨_, rfl⟩
  have hs1 : W1.heap.size = w.heap.size + 1 := by rw [hW1]; simp
  have hpa := (h.sep.az p (List.mem_of_getElem? hp))
  have hpm : p ∈ L.all ++ U := List.mem_append.2 (.inl (Lay.mem.2 (by simp [List.mem_of_getElem? hp])))
  have hgw := h.sep.gw
  have hbL := h.sep.b
  have kA : Kp [p] w (w.setCell ⟨p, 5, none⟩ (.int .i64 0)) := (Kp.refl [p] w).setCell (.inl (by simp)) _
  have kB : Kp [] (w.setCell ⟨p, 5, none⟩ (.int .i64 0)) W1 := by rw [hW1]; exact (Kp.refl [] _).alloc _
  have k1 : Kp [p] w W1 := kA.trans kB (by simp)
  have hbA : (w.setCell ⟨p, 5, none⟩ (.int .i64 0)).heap[p]? = some (.cells #[.int .i64 kd, .int .i64 (a.ctx : Int), .int .i64 (a.shard : Int), dv, .slice Af a.frame.length cF, .int .i64 ((0 : Nat) : Int), .int .i64 (a.tried : Int), .bool a.hinted, .bool a.answered] 101 (0, 0)) := heap_setCell_same _ p 5 _ _ (.int .i64 0) hbp
  have hb1 := kB.blk hbA (by simp)
  have hm1 : M3 W1 w.heap.size (.int .i64 0) (.int .i64 0) (.slice none 0 0) := by
    rw [hW1]
    have := heap_alloc_new (w.setCell ⟨p, 5, none⟩ (.int .i64 0)) (.cells #[.int .i64 0, .int .i64 0, .slice none 0 0] 44)
    rwa [World.size_setCell] at this
  have hask : AskAt (L.all ++ U) (w.setCell ⟨p, 5, none⟩ (.int .i64 0)) p { a with waited := 0 } := ⟨kd, dv, _, hbA, Af, cF, rfl, hrf.kp kA (by intro x hx; simp at hx; subst hx; exact .inl hpm), hcf, hcm, hnf⟩
  have hP1 := (h.ask hp ha kA hask rfl).kp (U2 := w.heap.size :: U) kB (by simp) (fun x hx => by
    rcases List.mem_cons.1 hx with rfl | e
    · exact .inr ⟨by simp, by omega⟩
    · exact .inl e)
  have nb : b ∉ [p] := by simp; intro e; subst e; exact hb hpm
  have nA : Ab ∉ [p] := by simp; intro e; subst e; exact hAb hpm
  have nw : L.gw ∉ [p] := by simp; intro e; subst e; omega
  have KX : As (∀ wX, Kp [w.heap.size] W1 wX → wX.cell? ⟨L.b, 0, none⟩ = some (.int .i64 (cf.id : Int)) ∧ wX.cell? ⟨L.b, 3, none⟩ = some (.slice (some ⟨b, o, none⟩) cf.shards.length cS) ∧ wX.cell? ⟨L.b, 4, none⟩ = some (.slice (some ⟨L.gw, 0, none⟩) s.whom.length cw) ∧
      wX.cell? ⟨p, 2, none⟩ = some (.int .i64 (a.shard : Int)) ∧ wX.cell? ⟨p, 4, none⟩ = some (.slice Af a.frame.length cF) ∧ wX.cell? ⟨b, o + a.shard, none⟩ = some (.slice (some ⟨Ab, Ao, none⟩) nj cj) ∧ wX.cell? ⟨L.gw, a.shard, none⟩ = some (.int .i64 (wi : Int)) ∧
      wX.cell? ⟨Ab, Ao + wi, none⟩ = some (.int .i64 (dest cf s.whom a.shard))) := ⟨fun wX kX => by
    have hdX := kX.blk hP1.hd (by simp; omega)
    have hbX := kX.blk hb1 (by simp; omega)
    have c2' := c2 wi hlt
    have lb := World.block_lt_of_cell? w _ c0
    have lA := World.block_lt_of_cell? w _ c2'
    refine ⟨blk_cell hdX 0 rfl, blk_cell hdX 3 rfl, blk_cell hdX 4 rfl, blk_cell hbX 2 rfl, blk_cell hbX 4 rfl, kX.cell (k1.cell c0 nb) (by simp at lb ⊢; omega), kX.cell (k1.cell cw1 nw) (by simp; omega), ?_⟩
    rw [dest, e2]
    exact kX.cell (k1.cell c2' nA) (by simp at lA ⊢; omega)⟩
  have HCL : As (∀ wX, Kp [] W1 wX → Calls Tryz.prog 29 #[.slice Af a.frame.length cF] wX fun e w' => ∃ A2 c2, e = .returned (.slice A2 a.frame.length c2) ∧ As (Own 5 .u8 w' W1.heap.size (.slice A2 a.frame.length c2) a.frame) ∧ As (Kp [] W1 w')) := ⟨fun wX kX => by
    refine (cloneb_any Af a.frame.length cF a.frame wX rfl ((hrf.kp k1 (by intro x hx; simp at hx; subst hx; exact .inl hpm)).kp kX (by simp)).rd hnf (by have := aok.frame.1; omega)).mono ?_
    rintro e w' ⟨v, rfl, ho, hk⟩
    obtain ⟨A2, c2, rfl, _⟩ := own_rd ho.1
    exact ⟨A2, c2, rfl, ⟨ho.lower kX.size⟩, ⟨kX.trans hk (by simp)⟩⟩⟩
  have HW1 := As.mk hW1
  have HMX : As (∀ wX, Kp [] W1 wX → wX.cell? ⟨w.heap.size, 0, none⟩ = some (.int .i64 0) ∧ wX.cell? ⟨w.heap.size, 1, none⟩ = some (.int .i64 0) ∧ wX.cell? ⟨w.heap.size, 2, none⟩ = some (.slice none 0 0) ∧ wX.frozen? ⟨w.heap.size, 0, none⟩ = false ∧ wX.frozen? ⟨w.heap.size, 1, none⟩ = false ∧ wX.frozen? ⟨w.heap.size, 2, none⟩ = false) := ⟨fun wX kX => by
    have hX := hm1.kp kX (by simp)
    exact ⟨blk_cell hX 0 rfl, blk_cell hX 1 rfl, blk_cell hX 2 rfl, blk_free hX 0, blk_free hX 1, blk_free hX 2⟩⟩
  have HL := As.mk h.sep
  have HP1 := As.mk hP1
  have HM1 := As.mk hm1
  have HK1 := As.mk k1
  have HS1 := As.mk hs1
  clear hW1 h hbp hrf hcf hnf hcm e2 e7 c2 hp ha ok aok hb hAb c0 cw1 fw1 hwl hP1 hm1 k1 hs1 hpa hpm hgw hbL hb1 hask nb nA nw kA kB hbA
  go_enter Tryz.func48, Tryz.ntmps48
  go_upto_region 2 with fail
  rw [← HW1.out]
  go_region_held3 (fun wX => wX.cell? ⟨L.b, 0, none⟩ = some (.int .i64 (cf.id : Int)) ∧ wX.cell? ⟨L.b, 3, none⟩ = some (.slice (some ⟨b, o, none⟩) cf.shards.length cS) ∧ wX.cell? ⟨L.b, 4, none⟩ = some (.slice (some ⟨L.gw, 0, none⟩) s.whom.length cw) ∧
      wX.cell? ⟨p, 2, none⟩ = some (.int .i64 (a.shard : Int)) ∧ wX.cell? ⟨p, 4, none⟩ = some (.slice Af a.frame.length cF) ∧ wX.cell? ⟨b, o + a.shard, none⟩ = some (.slice (some ⟨Ab, Ao, none⟩) nj cj) ∧ wX.cell? ⟨L.gw, a.shard, none⟩ = some (.int .i64 (wi : Int)) ∧
      wX.cell? ⟨Ab, Ao + wi, none⟩ = some (.int .i64 (dest cf s.whom a.shard)))
    (first | exact KX.out _ (Kp.refl _ W1) | exact KX.out _ (Kp.refl _ W1).drew | exact KX.out _ ((Kp.refl _ W1).drewN _) | exact KX.out _ (HK2.out.mono (by simp)) | exact KX.out _ ((HK2.out.mono (T := [w.heap.size]) (by simp)).drewN _) | exact KX.out _ (((((HK2.out.mono (T := [w.heap.size]) (by simp))).setCell (.inl (by simp)) _).setCell (.inl (by simp)) _).setCell (.inl (by simp)) _))
    (first | (go_at_call 29; refine (HCL.out _ (by first | exact Kp.refl [] W1 | exact (Kp.refl [] W1).drew | exact (Kp.refl [] W1).drewN _)).mono ?_; rintro e w2 ⟨A2, c2, rfl, HO2, HK2⟩; obtain ⟨m0, m1, m2, g0, g1, g2⟩ := HMX.out w2 HK2.out))
  go_wp2
  have hz := (HM1.out.kp HK2.out (by simp)).set (.int .i64 (cf.id : Int)) (.int .i64 (dest cf s.whom a.shard)) (.slice A2 a.frame.length c2)
  (try simp only [Exit.inBlock, Exit.then])
  refine bodyPost_ret (hz.1.res rfl rfl) rfl ?_
  have hs := HS1.out
  have kz : Kp [w.heap.size] W1 _ := (HK2.out.mono (by simp)).trans hz.2 (by simp)
  have hlt : ∀ x ∈ L.all ++ U, x < w.heap.size := by
    intro x hx
    rcases List.mem_append.1 hx with e | e
    · exact (HL.out.pos e).2
    · exact (HL.out.U x e).2
  have hin := (HP1.out.kp (U2 := w.heap.size :: U) HK2.out (by simp) (fun x hx => .inl hx)).kp (U2 := U) hz.2 (by simp) (fun x hx => .inl (by simp [hx]))
  refine ⟨_, rfl, ?_, ⟨_, _, _, _, _, _, _, _, hin⟩, ?_⟩
  · refine (BSl.own (S := w.heap.size :: (L.all ++ U)) HO2.out (fun x hx => .inl ?_)).kp hz.2 (by simp) (fun x hx => .inl (List.mem_cons_of_mem _ hx))
    rcases List.mem_cons.1 hx with rfl | e
    · omega
    · have := hlt x e; omega
  · exact HK1.out.trans kz (by simp)

set_option maxHeartbeats 4000000 in
set_option maxRecDepth 100000 in
theorem tried_any (U : List Nat) (w : World) (L : Lay) (cf : Cfg) (s : Cs) (i p : Nat) (a : Ask) (hC : CoSt U w L cf s) (ok : CsOk cf s) (hp : L.az[i]? = some p) (ha : s.asks[i]? = some a) (hlt : a.tried < cf.tries) :
    Calls Tryz.prog 31 #[.pointer (some ⟨L.b, 0, none⟩), .pointer (some ⟨p, 0, none⟩)] w (SendPost U L cf s i p a { a with waited := 0, tried := a.tried + 1, hinted := false } w) := by
  obtain ⟨κ, VS, VW, VJ, VD, MV, AV, l, h⟩ := hC
  have aok := ok.asks a (List.mem_of_getElem? ha)
  obtain ⟨kd, dv, fv, hbp, hbs⟩ := h.aa i a p ha hp
  have x0 : w.cell? ⟨p, 6, none⟩ = some (.int .i64 (a.tried : Int)) := blk_cell hbp 6 rfl
  have x1 : w.cell? ⟨p, 7, none⟩ = some (.bool a.hinted) := blk_cell hbp 7 rfl
  have f0 := blk_free hbp 6
  have f1 := blk_free hbp 7
  have hpl : p < w.heap.size := lt_of_block hbp
  have hpn : ¬ p = w.heap.size := by omega
  have i0 : (0 : Int) ≤ (a.tried : Int) := by omega
  have i1 : (a.tried : Int) ≤ 1000 := by have := ok.cfg.tries; omega
  have hpm : p ∈ L.all ++ U := List.mem_append.2 (.inl (Lay.mem.2 (by simp [List.mem_of_getElem? hp])))
  obtain ⟨WA, hWA⟩ : ∃ WA, WA = (w.setCell ⟨p, 6, none⟩ (.int .i64 ((a.tried : Int) + 1))).setCell ⟨p, 7, none⟩ (.bool false) := ⟨_, rfl⟩
  obtain ⟨W1, hW1⟩ : ∃ W1, W1 = ((w.setCell ⟨p, 6, none⟩ (.int .i64 ((a.tried : Int) + 1))).setCell ⟨p, 7, none⟩ (.bool false)).alloc (.cells #[.int .i64 0, .int .i64 0, .slice none 0 0] 44) := ⟨_, rfl⟩
  have hsA : WA.heap.size = w.heap.size := by rw [hWA]; simp
  have hs1 : W1.heap.size = w.heap.size + 1 := by rw [hW1, World.size_alloc, ← hWA, hsA]
  have kA : Kp [p] w WA := by rw [hWA]; exact ((Kp.refl [p] w).setCell (.inl (by simp)) _).setCell (.inl (by simp)) _
  have kB : Kp [] WA W1 := by rw [hW1, ← hWA]; exact (Kp.refl [] _).alloc _
  have k1 : Kp [p] w W1 := kA.trans kB (by simp)
  have hbA : WA.heap[p]? = some (.cells #[.int .i64 kd, .int .i64 (a.ctx : Int), .int .i64 (a.shard : Int), dv, fv, .int .i64 (a.waited : Int), .int .i64 ((a.tried + 1 : Nat) : Int), .bool false, .bool a.answered] 101 (0, 0)) := by
    rw [hWA]
    exact heap_setCell_same _ p 7 _ _ (.bool false) (heap_setCell_same _ p 6 _ _ (.int .i64 ((a.tried : Int) + 1)) hbp)
  have hm1 : M3 W1 w.heap.size (.int .i64 0) (.int .i64 0) (.slice none 0 0) := by
    rw [hW1, ← hWA, ← hsA]
    exact heap_alloc_new WA _
  have hask : AskAt (L.all ++ U) WA p { a with tried := a.tried + 1, hinted := false } := ⟨kd, dv, fv, hbA, hbs.kp kA (by intro x hx; simp at hx; subst hx; exact .inl hpm) (fun x hx => .inl hx)⟩
  have hP1 := (h.ask hp ha kA hask rfl).kp (U2 := w.heap.size :: U) kB (by simp) (fun x hx => by
    rcases List.mem_cons.1 hx with rfl | e
    · exact .inr ⟨by omega, by omega⟩
    · exact .inl e)
  have HSN : As (Calls Tryz.prog 48 #[.pointer (some ⟨L.b, 0, none⟩), .pointer (some ⟨p, 0, none⟩)] W1 fun e w2 => ∃ A2 c2, e = .returned (.agg #[.int .i64 (cf.id : Int), .int .i64 (dest cf s.whom a.shard), .slice A2 a.frame.length c2]) ∧
      (w2.cell? ⟨w.heap.size, 0, none⟩ = some (.int .i64 0) ∧ w2.cell? ⟨w.heap.size, 1, none⟩ = some (.int .i64 0) ∧ w2.cell? ⟨w.heap.size, 2, none⟩ = some (.slice none 0 0) ∧ w2.frozen? ⟨w.heap.size, 0, none⟩ = false ∧ w2.frozen? ⟨w.heap.size, 1, none⟩ = false ∧ w2.frozen? ⟨w.heap.size, 2, none⟩ = false) ∧
      As (M3 w2 w.heap.size (.int .i64 0) (.int .i64 0) (.slice none 0 0) ∧ SendPost (w.heap.size :: U) L cf { s with asks := s.asks.set i { a with tried := a.tried + 1, hinted := false } } i p { a with tried := a.tried + 1, hinted := false } { a with waited := 0, tried := a.tried + 1, hinted := false } W1 (.returned (.agg #[.int .i64 (cf.id : Int), .int .i64 (dest cf s.whom a.shard), .slice A2 a.frame.length c2])) w2)) := ⟨by
    have hl := (List.getElem?_eq_some_iff.1 ha).1
    refine (sends_any (w.heap.size :: U) W1 L cf _ i p { a with tried := a.tried + 1, hinted := false } ⟨_, _, _, _, _, _, _, _, hP1⟩ (ok.ask i ⟨aok.shard, aok.ctx, aok.frame, hlt, aok.waited⟩) hp (by simp [hl])).mono ?_
    rintro e w2 ⟨v, rfl, hv, hc, hk⟩
    obtain ⟨A2, c2, rfl, _⟩ := id hv
    have hX := hm1.kp hk (by simp; omega)
    exact ⟨A2, c2, rfl, ⟨blk_cell hX 0 rfl, blk_cell hX 1 rfl, blk_cell hX 2 rfl, blk_free hX 0, blk_free hX 1, blk_free hX 2⟩, ⟨hX, _, rfl, hv, hc, hk⟩⟩⟩
  have HW1 := As.mk hW1
  have HK1 := As.mk k1
  have HS1 := As.mk hs1
  clear hWA hW1 hsA hs1 kA kB k1 hbA hm1 hask hP1 h hbp hbs hpm hp ha ok aok hlt
  go_enter Tryz.func31, Tryz.ntmps31
  go_wp2_with (go_at_call 48; (try rw [← HW1.out]); refine HSN.out.mono ?_; rintro e w2 ⟨A2, c2, rfl, ⟨m0, m1, m2, g0, g1, g2⟩, HP2⟩)
  have hz := HP2.out.1.set (.int .i64 (cf.id : Int)) (.int .i64 (dest cf s.whom a.shard)) (.slice A2 a.frame.length c2)
  (try simp only [Exit.inBlock, Exit.then])
  refine bodyPost_ret (hz.1.res rfl rfl) rfl ?_
  have hs := HS1.out
  obtain ⟨_, v, ev, hbs, hcs, hk2⟩ := HP2.out
  simp only [Ending.returned.injEq, Value.agg.injEq] at ev
  obtain rfl : v = .slice A2 a.frame.length c2 := by simpa using ev.symm
  refine ⟨_, rfl, hbs.kp hz.2 (by simp) (fun x hx => .inl ?_), ?_, ?_⟩
  · rcases List.mem_append.1 hx with e | e <;> simp [e]
  · have := hcs.kp (U2 := U) hz.2 (by simp) (fun x hx => .inl (by simp [hx]))
    simpa using this
  · exact (HK1.out.trans hk2 (by simp)).trans hz.2 (by simp)
end Go.Proofs.YtdiljpdohmeceaaGreat.co

/- place.Hash, place.Shard: a key's digest, a key's shard. -/
namespace Go.Proofs.YtdiljpdohmeceaaGreat.co
open Go.RowKit H O opk frame wir

theorem kb_get {key : ByteArray} {k : Nat} (h : k < (kb key).length) : 0 ≤ (kb key)[k] ∧ (kb key)[k] < 256 := kb_wf key _ (List.getElem_mem h)
theorem hash_ret {k : Nat} {l : List Int} {c x : Int} (hlt : k < l.length) (hc : l[k] = c) (hx : hashStep (hashL (l.take k)) c = x) : Value.int .u64 x = .int .u64 (hashL (l.take (k + 1))) := by
  rw [hashL_step l k hlt, hc, hx]
set_option maxHeartbeats 4000000 in
set_option maxRecDepth 100000 in
theorem hash_full (key : ByteArray) (w : World) (hz : key.size ≤ 140737488351232) : Calls Tryz.prog 109 #[.string key] w fun e w' => e = .returned (.int .u64 (hashL (kb key))) ∧ Kp [] w w' := by
  obtain ⟨m, hkm⟩ : ∃ m, key.size = m := ⟨_, rfl⟩
  have hcv := Lib.run_convert_string_bytes (P := Tryz.prog) w 9 24 5 key Tryz.underlying9 Tryz.underlying24 Tryz.underlying5
  rw [hkm] at hcv hz
  have hrk := rds_bytes (S := []) w 5 key (by simp)
  have HK := As.mk (kp_bytes (Kp.refl [] w) 5 key)
  obtain ⟨w1, hw1⟩ : ∃ w1, Lib.bytesWorld w 5 key = w1 := ⟨_, rfl⟩
  rw [hw1] at hrk HK hcv
  have HR := As.mk hrk
  have HM := As.mk (show (kb key).length = m by rw [kb_len, hkm])
  clear hrk hw1 hkm
  go_enter Tryz.func109, Tryz.ntmps109
  go_wp2
  go_loopw [3, 9] (fun h i wr => ∃ k : Nat, i = .int .i64 (k : Int) ∧ k ≤ m ∧ h = .int .u64 (hashL ((kb key).take k)) ∧ wr = w1) (fun _ i _ => m - (intOf i).toNat)
  case atStart => exact ⟨0, rfl, by omega, rfl, rfl⟩
  case round =>
    obtain ⟨k, rfl, hk, rfl, rfl⟩ := hrel
    by_cases hlt : k < m
    · have hlt' : k < (kb key).length := by rw [HM.out]; exact hlt
      obtain ⟨a, ha, d0⟩ := HR.out.rd.int k hlt'
      cases ha
      rw [Addr.add_lit, Nat.zero_add] at d0
      have hb := kb_get hlt'
      have i0 : (0 : Int) ≤ (k : Int) := by omega
      have i1 : (k : Int) < (m : Int) := by omega
      obtain ⟨c, hc⟩ : ∃ c, (kb key)[k] = c := ⟨_, rfl⟩
      rw [hc] at d0 hb
      obtain ⟨hb0, hb1⟩ := hb
      have HL := As.mk hlt'
      obtain ⟨H, hH⟩ : ∃ H, hashL ((kb key).take k) = H := ⟨_, rfl⟩
      obtain ⟨x, hx⟩ : ∃ x, hashStep (hashL ((kb key).take k)) c = x := ⟨_, rfl⟩
      have HE := As.mk (hash_ret hlt' hc hx)
      rw [hH] at hx
      rw [hH]
      have HX := As.mk hx
      clear hlt' hc hH hx
      go_wp2
      go_roundw
      case rel =>
        exact ⟨k + 1, by go_num, by omega, by rw [← HE.out, ← HX.out]; rfl, by first | rfl | trivial⟩
      case measure => simp [intOf]; omega
    · go_wp2
      go_ret
      have e : (kb key).take k = kb key := List.take_of_length_le (by rw [HM.out]; omega)
      exact ⟨by rw [e]; rfl, HK.out⟩

theorem shard_full (key : ByteArray) (n : Nat) (w : World) (hz : key.size ≤ 140737488351232) (h1 : 1 ≤ n) (h8 : n ≤ 8) : Calls Tryz.prog 75 #[.string key, .int .i64 (n : Int)] w fun e w' => e = .returned (.tuple #[.int .i64 (shardOf (kb key) n : Int), .int .i64 0]) ∧ Kp [] w w' := by
  have HM : As (∀ wX, Calls Tryz.prog 108 #[.int .i64 (n : Int)] wX fun e w' => e = .returned (.bool true) ∧ Kp [] wX w') := ⟨fun wX => by
    have i1 : (1 : Int) ≤ (n : Int) := by omega
    have i8 : (n : Int) ≤ 8 := by omega
    go_enter Tryz.func108, Tryz.ntmps108
    go_wp2
    go_ret
    exact ⟨rfl, Kp.refl _ _⟩⟩
  have hp := hashL_pos (kb key)
  obtain ⟨H, hH⟩ : ∃ H, hashL (kb key) = H := ⟨_, rfl⟩
  have HH : As (∀ wX, Calls Tryz.prog 109 #[.string key] wX fun e w' => e = .returned (.int .u64 H) ∧ Kp [] wX w') := ⟨fun wX => by rw [← hH]; exact hash_full key wX hz⟩
  have HS : As (shardOf (kb key) n = (H % (n : Int)).toNat) := ⟨by rw [shardOf, hH]⟩
  rw [hH] at hp
  obtain ⟨p0, p1⟩ := hp
  have n0 : (0 : Int) < (n : Int) := by omega
  clear hz hH
  go_enter Tryz.func75, Tryz.ntmps75
  go_wp2_with (first
    | (go_at_call 108; refine (HM.out _).mono ?_; rintro e w1 ⟨rfl, k1⟩; have HK1 := As.mk k1; clear k1 HM)
    | (go_at_call 109; refine (HH.out w1).mono ?_; rintro e w2 ⟨rfl, k2⟩; have HK2 : As (Kp [] w w2) := ⟨HK1.out.trans k2 (by simp)⟩; clear k2 HH))
  go_ret2
  refine ⟨?_, HK2.out⟩
  have q0 := Int.emod_nonneg H (show (n : Int) ≠ 0 by omega)
  have q1 := Int.emod_lt_of_pos H n0
  have e : wrap64 (H % (n : Int)) = (((H % (n : Int)).toNat : Nat) : Int) := by
    generalize H % (n : Int) = q at q0 q1 ⊢
    rw [wrap64]
    omega
  rw [HS.out, ← e]
  rfl
end Go.Proofs.YtdiljpdohmeceaaGreat.co

/- coord: a job begins: an ask more; what is read of a job. -/
namespace Go.Proofs.YtdiljpdohmeceaaGreat.co
open Go.RowKit H O opk frame wir

theorem cvt_str {w : World} {A : Option Addr} {n c : Nat} {zs : List Int} (hz : zs.length = n) (hr : Rd w A (iv .u8 zs)) : (convert 24 9 (.slice A n c)).run Tryz.prog w = .ok (.string (strOfNums zs)) w := by
  by_cases hn : 0 < n
  · obtain ⟨a, rfl, d0⟩ := hr.int 0 (by omega)
    obtain ⟨b, o, s⟩ := a
    obtain rfl : s = none := by simpa [Addr.add] using World.cell?_spot d0
    refine run_convert_bytes_arg w 24 5 Tryz.underlying24 Tryz.underlying5 b o n c zs hz ?_ 9 Tryz.underlying9
    intro i hi
    obtain ⟨_, e, d⟩ := hr.int i (by omega)
    cases e
    rw [Go.WideShapes.add_plain] at d
    rw [d]
    simp [List.getD, show i < zs.length by omega]
  · obtain rfl : n = 0 := by omega
    obtain rfl : zs = [] := List.eq_nil_of_length_eq_zero hz
    rw [run_convert_bytes_string w 24 9 5 _ 0 c Tryz.underlying24 Tryz.underlying5 Tryz.underlying9]
    cases A <;> rfl

/-- the shards below k that a job asks -/
def pre (cf : Cfg) (j : Job) (k : Nat) : List Nat := if j.kind = 4 then List.range k else if shardOf (kb j.key) cf.shards.length < k then [shardOf (kb j.key) cf.shards.length] else []
theorem pre_zero (cf : Cfg) (j : Job) : pre cf j 0 = [] := by
  unfold pre; split
  · rfl
  · rfl
theorem pre_all {cf : Cfg} {j : Job} (h : 0 < cf.shards.length) : pre cf j cf.shards.length = jshards cf j := by
  unfold pre jshards
  split
  · rfl
  · rw [if_pos (shardOf_lt _ h)]
theorem pre_find {cf : Cfg} {j : Job} (k : Nat) (h : j.kind = 4) : pre cf j (k + 1) = pre cf j k ++ [k] := by
  unfold pre
  rw [if_pos h, if_pos h, List.range_succ]
theorem pre_hit {cf : Cfg} {j : Job} {k : Nat} (h : j.kind ≠ 4) (hk : k = shardOf (kb j.key) cf.shards.length) : pre cf j (k + 1) = pre cf j k ++ [k] := by
  unfold pre
  rw [if_neg h, if_neg h, if_pos (by omega), if_neg (by omega), hk]
  rfl
theorem pre_miss {cf : Cfg} {j : Job} {k : Nat} (h : j.kind ≠ 4) (hk : k ≠ shardOf (kb j.key) cf.shards.length) : pre cf j (k + 1) = pre cf j k := by
  unfold pre
  rw [if_neg h, if_neg h]
  by_cases e : shardOf (kb j.key) cf.shards.length < k
  · rw [if_pos e, if_pos (by omega)]
  · rw [if_neg e, if_neg (by omega)]
theorem pre_len (cf : Cfg) (j : Job) (k : Nat) : (pre cf j k).length ≤ k := by
  unfold pre
  split
  · simp
  · split
    · simp; omega
    · simp
theorem pre_mem {cf : Cfg} {j : Job} {k x : Nat} (h : x ∈ pre cf j k) : x < k := by
  unfold pre at h
  split at h
  · simpa using h
  · split at h
    · simp at h; omega
    · simp at h

/-- blocks that a call may have got -/
def Grew (w : World) (L L' : Lay) : Prop := L'.b = L.b ∧ ∀ x ∈ L'.all, x ∈ L.all ∨ w.heap.size ≤ x
theorem Grew.refl (w : World) (L : Lay) : Grew w L L := ⟨rfl, fun _ h => .inl h⟩
theorem Grew.trans {w w1 : World} {L L1 L2 : Lay} (h : Grew w L L1) (k : Grew w1 L1 L2) (hs : w.heap.size ≤ w1.heap.size) : Grew w L L2 :=
  ⟨k.1.trans h.1, fun x hx => (k.2 x hx).elim (fun e => h.2 x e) (fun e => .inr (by omega))⟩
theorem Grew.kp {w w1 w2 : World} {L L1 : Lay} (h : Grew w L L1) (k0 : Kp L.all w w1) (k : Kp L1.all w1 w2) : Kp L.all w w2 := k0.trans k h.2
theorem CoSt.mem_b {L : Lay} : L.b ∈ L.all := Lay.mem.2 (.inl rfl)
theorem CoSt.lt {U : List Nat} {w : World} {L : Lay} {cf : Cfg} {s : Cs} (h : CoSt U w L cf s) : ∀ x ∈ L.all ++ U, x < w.heap.size := by
  obtain ⟨κ, VS, VW, VJ, VD, MV, AV, l, h⟩ := h
  intro x hx
  rcases List.mem_append.1 hx with e | e
  · exact (h.sep.pos e).2
  · exact (h.sep.U x e).2

/-- an ask more -/
theorem CoP.addAsk {U : List Nat} {w w1 : World} {L : Lay} {cf : Cfg} {s : Cs} {κ : Nat → Nat} {VS VW VJ VD MV AV AV1 : Value} {l : List (ByteArray × Int)} (h : CoP U w L cf s κ VS VW VJ VD MV AV l) {j : Job} {r : List Job} {p0 q : Nat} {ps : List Nat} {a : Ask}
    (hj : s.jobs = j :: r) (hjs : L.js = p0 :: ps) (k : Kp (L.b :: p0 :: L.ga.toList) w w1)
    (hb : w1.heap[L.b]? = some (.cells #[.int .i64 (cf.id : Int), .int .i64 (cf.pat : Int), .int .i64 (cf.tries : Int), VS, VW, VJ, .int .i64 (nextJ s : Int), .int .i64 ((s.ctx + 1 : Nat) : Int), VD] 95 (0, 0)))
    (hp : ∀ S2, (∀ x ∈ S2, x ∈ L.all ++ U ∨ w.heap.size ≤ x) → JobAt S2 w1 p0 cf.id s.ended j MV AV1) (hq : ∀ S2, (∀ x ∈ S2, x ∈ L.all ++ U ∨ x = q ∨ AV1.ownBlock = some x) → AskAt S2 w1 q a) (hq0 : w.heap.size ≤ q) (hq1 : q < w1.heap.size)
    (ho : w1.ownsRow 0 97 1 AV1 (L.az.length + 1) (L.az.map ptr ++ [ptr q])) (hat : ∀ x, AV1.ownBlock = some x → (L.ga = some x ∨ w.heap.size ≤ x) ∧ x ≠ q) (hms : a.ms = []) :
    CoP U w1 { L with ga := AV1.ownBlock, az := L.az ++ [q] } cf { s with ctx := s.ctx + 1, asks := s.asks ++ [a] } (fun x => if x = q then 8 else if AV1.ownBlock = some x then 5 else κ x) VS VW VJ VD MV AV1 l := by
  have hs := k.size
  have hp0 := h.sep.js p0 (by rw [hjs]; simp)
  have hkp : ∀ x ∈ L.b :: p0 :: L.ga.toList, (κ x = 1 ∨ x = p0 ∨ κ x = 5) ∧ x ∈ L.all := by
    intro x hx
    rcases List.mem_cons.1 hx with rfl | hx
    · exact ⟨.inl h.sep.b.1, Lay.mem.2 (.inl rfl)⟩
    · rcases List.mem_cons.1 hx with rfl | hx
      · exact ⟨.inr (.inl rfl), Lay.mem.2 (by simp [hjs])⟩
      · have e : L.ga = some x := by simpa using hx
        exact ⟨.inr (.inr (h.sep.ga x e).1), Lay.mem.2 (by simp [e])⟩
  have hV' : ∀ x ∈ L.b :: p0 :: L.ga.toList, x ∈ L.all ++ U ∨ w.heap.size ≤ x := fun x hx => .inl (List.mem_append.2 (.inl (hkp x hx).2))
  have hall : ∀ x ∈ ({ L with ga := AV1.ownBlock, az := L.az ++ [q] } : Lay).all ++ U, x ∈ L.all ++ U ∨ x = q ∨ AV1.ownBlock = some x := by
    intro x hx
    rcases List.mem_append.1 hx with e | e
    · rcases Lay.mem.1 e with e | e | e | e | e | e | e | e
      · exact .inl (List.mem_append.2 (.inl (Lay.mem.2 (by simp_all))))
      · exact .inl (List.mem_append.2 (.inl (Lay.mem.2 (by simp_all))))
      · exact .inl (List.mem_append.2 (.inl (Lay.mem.2 (by simp_all))))
      · exact .inl (List.mem_append.2 (.inl (Lay.mem.2 (by simp_all))))
      · exact .inr (.inr e)
      · exact .inl (List.mem_append.2 (.inl (Lay.mem.2 (by simp_all))))
      · exact .inl (List.mem_append.2 (.inl (Lay.mem.2 (by simp_all))))
      · rcases List.mem_append.1 e with e | e
        · exact .inl (List.mem_append.2 (.inl (Lay.mem.2 (by simp_all))))
        · exact .inr (.inl (by simpa using e))
    · exact .inl (List.mem_append.2 (.inr e))
  have hS' : ∀ x ∈ ({ L with ga := AV1.ownBlock, az := L.az ++ [q] } : Lay).all ++ U, x ∈ L.all ++ U ∨ w.heap.size ≤ x := by
    intro x hx
    rcases hall x hx with e | e | e
    · exact .inl e
    · exact .inr (by omega)
    · rcases (hat x e).1 with e2 | e2
      · exact .inl (List.mem_append.2 (.inl (Lay.mem.2 (by simp [e2]))))
      · exact .inr e2
  have ne : ∀ x c, κ x = c → c ≠ 1 → c ≠ 7 → c ≠ 5 → x ∉ L.b :: p0 :: L.ga.toList := fun x c hx c1 c7 c5 hm => by
    rcases (hkp x hm).1 with e | rfl | e <;> omega
  have κ' : ∀ x c, κ x = c ∧ x < w.heap.size → c ≠ 5 → (if x = q then 8 else if AV1.ownBlock = some x then 5 else κ x) = c ∧ x < w1.heap.size := by
    intro x c hx hc
    rw [if_neg (by omega), if_neg]
    · exact ⟨hx.1, by omega⟩
    · intro e
      rcases (hat x e).1 with e2 | e2
      · have := (h.sep.ga x e2).1; omega
      · omega
  refine ⟨⟨κ' _ _ h.sep.b (by decide), κ' _ _ h.sep.gw (by decide), fun x e => κ' _ _ (h.sep.gj x e) (by decide), fun x e => κ' _ _ (h.sep.gd x e) (by decide), fun x e => ?_, fun x e => κ' _ _ (h.sep.gm x e) (by decide), fun x e => κ' _ _ (h.sep.js x e) (by decide), fun x e => ?_, h.sep.jn, ?_, fun x e => κ' _ _ (h.sep.U x e) (by decide)⟩,
    hb, h.sh.kp k hV' hS', ⟨k.own h.wh.1 (fun x e => ?_), h.wh.2⟩, h.jq.kp k (fun x e => ne _ _ (h.sep.gj x e).1 (by decide) (by decide) (by decide)), h.dn.kp k (fun x e => ne _ _ (h.sep.gd x e).1 (by decide) (by decide) (by decide)) hV' hS', h.jl,
    fun i j2 p h1 h2 => ?_, by show (L.az ++ [q]).length = (s.asks ++ [a]).length; rw [List.length_append, List.length_append, h.al]; rfl, fun i a2 p h1 h2 => ?_, ⟨?_, rfl⟩, ⟨k.own h.mq.1 (fun x e => ne _ _ (h.sep.gm x (by rw [← h.mq.2.1]; exact e)).1 (by decide) (by decide) (by decide)), h.mq.2.1, ?_⟩, fun e => ?_⟩
  · show (if x = q then 8 else if AV1.ownBlock = some x then 5 else κ x) = 5 ∧ x < w1.heap.size
    have e' : AV1.ownBlock = some x := e
    rw [if_neg (hat x e').2, if_pos e']
    exact ⟨rfl, own_lt ho x e'⟩
  · show (if x = q then 8 else if AV1.ownBlock = some x then 5 else κ x) = 8 ∧ x < w1.heap.size
    have e' : x ∈ L.az ++ [q] := e
    rcases List.mem_append.1 e' with e2 | e2
    · exact κ' _ _ (h.sep.az x e2) (by decide)
    · have : x = q := by simpa using e2
      rw [if_pos this]
      exact ⟨rfl, by omega⟩
  · show (L.az ++ [q]).Nodup
    rw [List.nodup_append]
    refine ⟨h.sep.an, by simp, fun x hx y hy => ?_⟩
    have := (h.sep.az x hx).2
    simp at hy
    omega
  · rw [h.wh.2] at e
    cases e
    exact ne _ _ h.sep.gw.1 (by decide) (by decide) (by decide)
  · by_cases e : i = 0
    · subst e
      have e1 : s.jobs[0]? = some j2 := h1
      rw [hj] at e1
      have e2 : L.js[0]? = some p := h2
      rw [hjs] at e2
      cases e1
      cases e2
      exact hp _ hS'
    · have hh := h.ja i j2 p h1 h2
      rw [if_neg e, if_neg e] at hh ⊢
      refine hh.kp k ?_ hV' hS'
      intro hm
      have h7 := h.sep.js p (List.mem_of_getElem? h2)
      rcases (hkp p hm).1 with e3 | e3 | e3
      · omega
      · have := nodup_idx h.sep.jn h2 (show L.js[0]? = some p by rw [hjs, e3]; rfl)
        omega
      · omega
  · have h1 : (s.asks ++ [a])[i]? = some a2 := h1
    have h2 : (L.az ++ [q])[i]? = some p := h2
    by_cases hi : i < s.asks.length
    · rw [List.getElem?_append_left hi] at h1
      rw [List.getElem?_append_left (by rw [h.al]; exact hi)] at h2
      refine (h.aa i a2 p h1 h2).kp k (ne _ _ (h.sep.az p (List.mem_of_getElem? h2)).1 (by decide) (by decide) (by decide)) hV' hS'
    · have hi2 : i = s.asks.length := by
        have := (List.getElem?_eq_some_iff.1 h1).1
        rw [List.length_append, List.length_singleton] at this
        omega
      subst hi2
      rw [List.getElem?_append_right (Nat.le_refl _)] at h1
      rw [← h.al, List.getElem?_append_right (Nat.le_refl _)] at h2
      simp at h1 h2
      subst h1 h2
      exact hq _ hall
  · show w1.ownsRow 0 97 1 AV1 (L.az ++ [q]).length ((L.az ++ [q]).map ptr)
    rw [List.length_append, List.map_append]
    exact ho
  · show l.Perm ((s.asks ++ [a]).flatMap (·.ms))
    rw [List.flatMap_append, List.flatMap_singleton, hms, List.append_nil]
    exact h.mq.2.2
  · have e : s.asks ++ [a] = [] := e
    simp at e
end Go.Proofs.YtdiljpdohmeceaaGreat.co

/- coord: a job begins: one round. -/
namespace Go.Proofs.YtdiljpdohmeceaaGreat.co
open Go.RowKit H O opk frame wir

theorem info_ask : (Tryz.prog.info? 97).map (fun i => (i.zero, i.size, i.bytes)) = some (some (.pointer none), 1, 8) := by kernel_rfl
theorem BSl.jd {S : List Nat} {w : World} {lo : Nat} {v : Value} {xs : List Int} (h : joins.Jd xs lo w v) (hS : ∀ x ∈ S, x < lo) (hm : xs.length ≤ 9223372036854775807) : BSl S w v xs := by
  rcases h with h | ⟨g, rfl, h1, h2, h3⟩
  · exact BSl.own h (fun x hx => .inl (hS x hx))
  · refine ⟨_, _, rfl, fun j u hu => ?_, Nat.le_refl _, hm, by simp⟩
    obtain ⟨a, ha, hc⟩ := h3 j u hu
    cases ha
    exact ⟨_, rfl, fun hm => by have := hS _ hm; simp at this; omega, hc⟩

/-- the state behind k shards -/
def bSt (cf : Cfg) (s : Cs) (j : Job) (k : Nat) : Cs := { s with asks := mkAsks cf s.ended j 0 s.ctx (pre cf j k), ctx := s.ctx + (pre cf j k).length }
def BegI (U : List Nat) (L : Lay) (cf : Cfg) (s' : Cs) (w : World) (w' : World) : Prop := ∃ L', CoSt U w' L' cf s' ∧ Grew w L L' ∧ L'.js = L.js ∧ Kp L.all w w'
theorem bSt_next {cf : Cfg} {s : Cs} {j : Job} {k : Nat} (h : pre cf j (k + 1) = pre cf j k ++ [k]) : bSt cf s j (k + 1) = { bSt cf s j k with ctx := (bSt cf s j k).ctx + 1, asks := (bSt cf s j k).asks ++ [newAsk cf s.ended j 0 ((bSt cf s j k).ctx + 1) k] } := by
  simp only [bSt, h, mkAsks_snoc, List.length_append, List.length_singleton]
  rfl

/-- the new ask's block -/
def askNew (wk : Int) (c1 k : Nat) (dv : Value) : Obj := .cells #[.int .i64 wk, .int .i64 (c1 : Int), .int .i64 (k : Int), dv, .slice none 0 0, .int .i64 0, .int .i64 0, .bool false, .bool false] 101
structure BegM (U : List Nat) (cf : Cfg) (s' : Cs) (L : Lay) (p0 : Nat) (wr : World) (wk : Int) (c1 k : Nat) (dv AV vF : Value) (w4 : World) : Prop where
  own : wr.ownsRow 0 97 1 AV L.az.length (L.az.map ptr) ∧ AV.ownBlock = L.ga
  b : L.b < wr.heap.size
  ga : ∀ x, L.ga = some x → x < wr.heap.size ∧ x ≠ L.b ∧ x ≠ p0
  pp : p0 < wr.heap.size ∧ p0 ≠ L.b
  cell : wr.cell? ⟨p0, 13, none⟩ = some AV ∧ wr.frozen? ⟨p0, 13, none⟩ = false
  kp : Kp [] ((wr.setCell ⟨L.b, 7, none⟩ (.int .i64 (c1 : Int))).alloc (askNew wk c1 k dv)) w4

theorem BegM.mid {U : List Nat} {cf : Cfg} {s' : Cs} {L : Lay} {p0 : Nat} {wr : World} {wk : Int} {c1 k : Nat} {dv AV vF : Value} {w4 : World} (h : BegM U cf s' L p0 wr wk c1 k dv AV vF w4) :
    w4.cell? ⟨wr.heap.size, 4, none⟩ = some (.slice none 0 0) ∧ w4.frozen? ⟨wr.heap.size, 4, none⟩ = false ∧ wr.heap.size < w4.heap.size ∧ w4.cell? ⟨p0, 13, none⟩ = some AV ∧ p0 ≠ wr.heap.size ∧
      ((w4.setCell ⟨wr.heap.size, 4, none⟩ vF).alloc (.cells #[ptr wr.heap.size] 97)).ownsRow 0 97 1 AV L.az.length (L.az.map ptr) := by
  have hs : (wr.setCell ⟨L.b, 7, none⟩ (.int .i64 (c1 : Int))).heap.size = wr.heap.size := by simp
  have hq := heap_alloc_new (wr.setCell ⟨L.b, 7, none⟩ (.int .i64 (c1 : Int))) (askNew wk c1 k dv)
  rw [hs] at hq
  have hq4 := h.kp.blk hq (by simp)
  have kA : Kp [L.b] wr w4 := ((((Kp.refl [L.b] wr).setCell (.inl (by simp)) _).alloc _)).trans h.kp (by simp)
  have kB : Kp [wr.heap.size] w4 ((w4.setCell ⟨wr.heap.size, 4, none⟩ vF).alloc (.cells #[ptr wr.heap.size] 97)) := ((Kp.refl [wr.heap.size] w4).setCell (.inl (by simp)) _).alloc _
  refine ⟨blk_cell hq4 4 rfl, blk_free hq4 4, lt_of_block hq4, kA.cell h.cell.1 (by simp; exact h.pp.2), by have := h.pp; omega, ?_⟩
  have hg := h.own.2
  refine kB.own (kA.own h.own.1 (fun x e => ?_)) (fun x e => ?_)
  · have := h.ga x (by rw [← hg]; exact e)
    simp; omega
  · have := h.ga x (by rw [← hg]; exact e)
    simp; omega

theorem BegM.fin {U : List Nat} {cf : Cfg} {s : Cs} {j : Job} {r : List Job} {L Lk : Lay} {p0 : Nat} {ps : List Nat} {w1 wr : World} {wk : Int} {c1 k : Nat} {dv vF v7 : Value} {w4 w7 : World} {κ : Nat → Nat} {VS VW VJ VD MV AV : Value} {l : List (ByteArray × Int)}
    (h : BegM U cf (bSt cf s j k) Lk p0 wr wk c1 k dv AV vF w4) (hc : CoP U wr Lk cf (bSt cf s j k) κ VS VW VJ VD MV AV l) (hg : Grew w1 L Lk) (hjl : Lk.js = L.js) (hkp : Kp L.all w1 wr) (hj : s.jobs = j :: r) (hL : L.js = p0 :: ps)
    (hpre : pre cf j (k + 1) = pre cf j k ++ [k]) (hc1 : c1 = (bSt cf s j k).ctx + 1) (hF : ∀ S2, (∀ x ∈ S2, x ≤ wr.heap.size) → BSl S2 w4 vF (frameOf cf s.ended j c1 k))
    (o7 : w7.ownsRow 0 97 1 v7 (Lk.az.length + 1) (Lk.az.map ptr ++ [ptr wr.heap.size])) (k7 : Kp AV.ownBlock.toList ((w4.setCell ⟨wr.heap.size, 4, none⟩ vF).alloc (.cells #[ptr wr.heap.size] 97)) w7) (a7 : At (w4.heap.size + 1) AV.ownBlock v7.ownBlock) :
    w7.cell? ⟨p0, 13, none⟩ = some AV ∧ w7.frozen? ⟨p0, 13, none⟩ = false ∧ BegI U L cf (bSt cf s j (k + 1)) w1 (w7.setCell ⟨p0, 13, none⟩ v7) := by
  have hs : (wr.setCell ⟨Lk.b, 7, none⟩ (.int .i64 (c1 : Int))).heap.size = wr.heap.size := by simp
  have hq := heap_alloc_new (wr.setCell ⟨Lk.b, 7, none⟩ (.int .i64 (c1 : Int))) (askNew wk c1 k dv)
  rw [hs] at hq
  have hq4 := h.kp.blk hq (by simp)
  have hqs := lt_of_block hq4
  have hp0 := h.pp
  have hbl := h.b
  have hL' : Lk.js = p0 :: ps := hjl.trans hL
  -- the blocks at w7
  have kA : Kp [Lk.b] wr w4 := ((((Kp.refl [Lk.b] wr).setCell (.inl (by simp)) _).alloc _)).trans h.kp (by simp)
  have kB : Kp [wr.heap.size] w4 ((w4.setCell ⟨wr.heap.size, 4, none⟩ vF).alloc (.cells #[ptr wr.heap.size] 97)) := ((Kp.refl [wr.heap.size] w4).setCell (.inl (by simp)) _).alloc _
  have hgb : ∀ x, AV.ownBlock = some x → x < wr.heap.size ∧ x ≠ Lk.b ∧ x ≠ p0 := fun x e => h.ga x (by rw [← h.own.2]; exact e)
  have nq : wr.heap.size ∉ AV.ownBlock.toList := by
    intro e
    have e : AV.ownBlock = some wr.heap.size := by simpa using e
    have := (hgb _ e).1
    omega
  have np : p0 ∉ AV.ownBlock.toList := by
    intro e
    have e : AV.ownBlock = some p0 := by simpa using e
    exact (hgb _ e).2.2 rfl
  have nb : Lk.b ∉ AV.ownBlock.toList := by
    intro e
    have e : AV.ownBlock = some Lk.b := by simpa using e
    exact (hgb _ e).2.1 rfl
  have kC : Kp [p0] w7 (w7.setCell ⟨p0, 13, none⟩ v7) := (Kp.refl [p0] w7).setCell (.inl (by simp)) _
  -- Coord's block
  have hb0 : (wr.setCell ⟨Lk.b, 7, none⟩ (.int .i64 (c1 : Int))).heap[Lk.b]? = _ := heap_setCell_same wr Lk.b 7 _ _ (.int .i64 (c1 : Int)) hc.hd
  have hb4 := h.kp.blk (blk_alloc hb0 (askNew wk c1 k dv)) (by simp)
  have hb7 := kC.blk (k7.blk (kB.blk hb4 (by simp; omega)) nb) (by simp; omega)
  -- the job's block
  obtain ⟨tv, ev, hp, htv, hev⟩ := hc.ja 0 j p0 (show s.jobs[0]? = some j by rw [hj]; rfl) (by rw [hL']; rfl)
  rw [if_pos rfl, if_pos rfl] at hp
  have hp7 := k7.blk (kB.blk (kA.blk hp (by simp; omega)) (by simp; omega)) np
  have hpE := heap_setCell_same w7 p0 13 _ _ v7 hp7
  -- the ask's block
  have hq5 : ((w4.setCell ⟨wr.heap.size, 4, none⟩ vF).alloc (.cells #[ptr wr.heap.size] 97)).heap[wr.heap.size]? = _ := blk_alloc (heap_setCell_same w4 wr.heap.size 4 _ _ vF hq4) _
  have hqE := kC.blk (k7.blk hq5 nq) (by simp; omega)
  have kW : Kp (Lk.b :: p0 :: Lk.ga.toList) wr (w7.setCell ⟨p0, 13, none⟩ v7) := by
    refine (((kA.mono (T := Lk.b :: p0 :: Lk.ga.toList) (by simp)).trans kB (by simp)).trans k7 ?_).trans kC (by simp)
    intro x hx
    rw [h.own.2] at hx
    exact .inl (by simp at hx; simp [hx])
  have hat : ∀ x, v7.ownBlock = some x → (Lk.ga = some x ∨ wr.heap.size ≤ x) ∧ x ≠ wr.heap.size := by
    intro x e
    rcases a7 with e2 | ⟨y, e2, hy⟩
    · rw [e2] at e
      refine ⟨.inl (by rw [← h.own.2]; exact e), ?_⟩
      have := (hgb x e).1
      omega
    · rw [e2] at e
      cases e
      exact ⟨.inr (by omega), by omega⟩
  have hcl : ∀ x ∈ Lk.all ++ U, x < wr.heap.size := (CoSt.lt ⟨κ, VS, VW, VJ, VD, MV, AV, l, hc⟩)
  have ho7 : (w7.setCell ⟨p0, 13, none⟩ v7).ownsRow 0 97 1 v7 (Lk.az.length + 1) (Lk.az.map ptr ++ [ptr wr.heap.size]) := by
    refine kC.own o7 (fun x e hm => ?_)
    simp only [List.mem_singleton] at hm
    subst hm
    rcases a7 with e2 | ⟨y, e2, hy⟩
    · rw [e2] at e
      exact (hgb x e).2.2 rfl
    · rw [e2] at e
      cases e
      omega
  have hV' : ∀ x ∈ Lk.b :: p0 :: Lk.ga.toList, x ∈ Lk.all ++ U ∨ wr.heap.size ≤ x := by
    intro x hx
    refine .inl (List.mem_append.2 (.inl (Lay.mem.2 ?_)))
    rcases List.mem_cons.1 hx with rfl | hx
    · simp
    · rcases List.mem_cons.1 hx with rfl | hx
      · simp [hL']
      · have e : Lk.ga = some x := by simpa using hx
        simp [e]
  have hfin := hc.addAsk (a := newAsk cf s.ended j 0 c1 k) (q := wr.heap.size) (AV1 := v7) (r := r) (ps := ps) (p0 := p0) (j := j) hj hL' kW (by rw [hc1] at hb7; exact hb7)
    (fun S2 hS2 => ⟨tv, ev, hpE, htv.kp kW hV' hS2, hev.kp kW hV' hS2⟩)
    (fun S2 hS2 => ⟨wk, dv, vF, hqE, by
      have h1 := hF (Lk.all ++ U ++ [wr.heap.size]) (fun x hx => by
        rcases List.mem_append.1 hx with e | e
        · have := hcl x e; omega
        · simp at e; omega)
      have k8 : Kp (wr.heap.size :: AV.ownBlock.toList ++ [p0]) w4 (w7.setCell ⟨p0, 13, none⟩ v7) := ((kB.mono (by simp)).trans k7 (by intro x hx; left; simp at hx ⊢; simp [hx])).trans kC (by simp)
      refine h1.kp k8 (fun x hx => .inl ?_) (fun x hx => ?_)
      · simp only [List.cons_append, List.mem_cons, List.mem_append, List.not_mem_nil, or_false] at hx ⊢
        rcases hx with e | e | e
        · exact .inr e
        · exact .inl (.inl (Lay.mem.2 (by rw [h.own.2] at e; simp at e; simp [e])))
        · exact .inl (.inl (Lay.mem.2 (by simp [hL', e])))
      · rcases hS2 x hx with e | e | e
        · exact .inl (by simp only [List.mem_append] at e ⊢; exact .inl e)
        · exact .inl (by simp [e])
        · rcases a7 with e2 | ⟨y, e2, hy⟩
          · rw [e2, h.own.2] at e
            exact .inl (by simp only [List.mem_append]; exact .inl (.inl (Lay.mem.2 (by simp [e]))))
          · rw [e2] at e
            cases e
            exact .inr (by omega)⟩)
    (Nat.le_refl _) (by have := lt_of_block hqE; exact this) ho7 hat rfl
  refine ⟨blk_cell hp7 13 rfl, blk_free hp7 13, { Lk with ga := v7.ownBlock, az := Lk.az ++ [wr.heap.size] }, ⟨_, _, _, _, _, _, _, _, by rw [bSt_next hpre, ← hc1]; rw [← hc1] at hfin; exact hfin⟩, ⟨hg.1, fun x hx => ?_⟩, hjl, hkp.trans kW (fun x hx => ?_)⟩
  · have hsz := hkp.size
    rcases Lay.mem.1 hx with e | e | e | e | e | e | e | e
    · exact hg.2 x (Lay.mem.2 (.inl e))
    · exact hg.2 x (Lay.mem.2 (by simp [show x = Lk.gw from e]))
    · exact hg.2 x (Lay.mem.2 (by simp [show Lk.gj = some x from e]))
    · exact hg.2 x (Lay.mem.2 (by simp [show Lk.gd = some x from e]))
    · rcases (hat x e).1 with e2 | e2
      · exact hg.2 x (Lay.mem.2 (by simp [e2]))
      · exact .inr (by omega)
    · exact hg.2 x (Lay.mem.2 (by simp [show Lk.gm = some x from e]))
    · exact hg.2 x (Lay.mem.2 (by simp [show x ∈ Lk.js from e]))
    · have e : x ∈ Lk.az ++ [wr.heap.size] := e
      rcases List.mem_append.1 e with e2 | e2
      · exact hg.2 x (Lay.mem.2 (by simp [e2]))
      · simp at e2
        exact .inr (by omega)
  · rcases hV' x hx with e | e
    · rcases List.mem_cons.1 hx with rfl | hx2
      · exact hg.2 _ (Lay.mem.2 (.inl rfl))
      · rcases List.mem_cons.1 hx2 with rfl | hx3
        · exact .inl (Lay.mem.2 (by simp [hL]))
        · have e : Lk.ga = some x := by simpa using hx3
          exact hg.2 _ (Lay.mem.2 (by simp [e]))
    · exact .inr (by have := hkp.size; omega)
end Go.Proofs.YtdiljpdohmeceaaGreat.co

/- coord: messages in a row; an append at a step of a region; whom to ask turns; a job ends. -/
namespace Go.Proofs.YtdiljpdohmeceaaGreat.co
open Go.RowKit H O opk frame wir

/-- append onto a row of the call's own, at a step of a region that draws its order -/
theorem step_app {P : Program} {w : World} {ops : Array Oper} {o : Oper} {a : Act} {K : Act → World → Prop} {Q : Exit → Act → World → Prop} {E : Prop} (hgd : o.guard = none) (s x : Operand) (t : TypeId)
    (ho : o.op = .call { callee := .builtin .append, args := #[s, x], argTypes := #[t, t] }) (e : TypeId) (z : Value) (size bytes : Nat) (ht : P.underlying t = some (.slice e))
    (hI : (P.info? e).map (fun i => (i.zero, i.size, i.bytes)) = some (some z, size, bytes)) (hzs : z.cells.size = size) (hsz : 0 < size)
    (v : Value) (n : Nat) (xs : List Value) (hs : a.eval s = v) (hown : w.ownsRow 0 e size v n xs)
    (A : Option Addr) (m c : Nat) (news : List Value) (hx : a.eval x = .slice A m c) (hl : news.length = m * size) (hrd : Rd w A news) (hnil : A = none → c = 0) (h1 : ∀ u ∈ news, u.oneCell' = true)
    (hb : (n + m) * bytes ≤ 140737488355328) (hm : n + m ≤ 140737488355328)
    (h : ∀ v' w', w'.ownsRow 0 e size v' (n + m) (xs ++ news) → Kp v.ownBlock.toList w w' → At w.heap.size v.ownBlock v'.ownBlock → K (a.put o.dst v') w') :
    if Region.wanted o (yielded ops a.tmps) = true then Oper.wp P o a w K Q else E := by
  have hw : Region.wanted o (yielded ops a.tmps) = true := by simp [Region.wanted, hgd]
  rw [if_pos hw]
  obtain ⟨v', w', hr, h2, h3, h4, h5⟩ := run_app (P := P) w t o.type e z size bytes ht hI hzs hsz v n xs hown A m c news hl hrd hnil h1 hb hm
  unfold Oper.wp execOp
  simp only [ho, resolve, invoke, builtin, Sem.run_bind, Sem.run_pure, Result.andThen_ok, List.map_toArray, List.map_cons, List.map_nil, hs, hx, hr]
  exact h v' w' h2 h3 h4

theorem info_msg : (Tryz.prog.info? 44).map (fun i => (i.zero, i.size, i.bytes)) = some (some (.agg #[.int .i64 0, .int .i64 0, .slice none 0 0]), 3, 40) := by kernel_rfl
theorem info_res : (Tryz.prog.info? 61).map (fun i => (i.zero, i.size, i.bytes)) = some (some (.agg #[.int .i64 0, .int .i64 0, .bool false, .bool false, .slice none 0 0, .slice none 0 0]), 6, 72) := by kernel_rfl

/-- messages' cells -/
def MsOk (S : List Nat) (w : World) : List Msg → List Value → Prop
  | [], vs => vs = []
  | m :: l, vs => ∃ dv b, vs = [.int .i64 m.frm, .int .i64 m.dst, dv] ++ b ∧ BSl S w dv m.data ∧ MsOk S w l b
theorem MsOk.kp {S S2 V : List Nat} {w w1 : World} (k : Kp V w w1) (hV : ∀ x ∈ V, x ∈ S ∨ w.heap.size ≤ x) (hS : ∀ x ∈ S2, x ∈ S ∨ w.heap.size ≤ x) : ∀ {l : List Msg} {vs : List Value}, MsOk S w l vs → MsOk S2 w1 l vs
  | [], _, h => h
  | _ :: _, _, ⟨a, b, h1, h2, h3⟩ => ⟨a, b, h1, h2.kp k hV hS, MsOk.kp k hV hS h3⟩
theorem MsOk.snoc {S : List Nat} {w : World} {m : Msg} {dv : Value} (hr : BSl S w dv m.data) : ∀ {l : List Msg} {vs : List Value}, MsOk S w l vs → MsOk S w (l ++ [m]) (vs ++ [.int .i64 m.frm, .int .i64 m.dst, dv])
  | [], vs, h => by
    obtain rfl : vs = [] := h
    exact ⟨dv, [], by simp, hr, rfl⟩
  | _ :: _, _, ⟨p, q, h1, h2, h3⟩ => by
    subst h1
    exact ⟨p, q ++ _, by simp, h2, MsOk.snoc hr h3⟩
/-- messages in a row of a call's own, off the blocks S -/
def OutI (S : List Nat) (w : World) (v : Value) (ms : List Msg) : Prop := ∃ vs, w.ownsRow 0 44 3 v ms.length vs ∧ (∀ g, v.ownBlock = some g → g ∉ S) ∧ MsOk (v.ownBlock.toList ++ S) w ms vs
theorem OutI.nil (S : List Nat) (w : World) : OutI S w (.slice none 0 0) [] := ⟨[], World.ownsRow_nil w 0 _ 3, by simp [Value.ownBlock], rfl⟩
theorem OutI.kp {S S2 V : List Nat} {w w1 : World} {v : Value} {ms : List Msg} (h : OutI S w v ms) (k : Kp V w w1) (hV : ∀ x ∈ V, x ∈ S ∨ w.heap.size ≤ x) (hS : ∀ x ∈ S2, x ∈ S ∨ w.heap.size ≤ x) : OutI S2 w1 v ms := by
  obtain ⟨vs, h1, h2, h3⟩ := h
  refine ⟨vs, k.own h1 (fun g hg hm => ?_), fun g hg hm => ?_, h3.kp k (fun x hx => (hV x hx).imp (fun e => List.mem_append.2 (.inr e)) id) (fun x hx => ?_)⟩
  · have := own_lt h1 g hg
    rcases hV g hm with e | e
    · exact h2 g hg e
    · omega
  · have := own_lt h1 g hg
    rcases hS g hm with e | e
    · exact h2 g hg e
    · omega
  · rcases List.mem_append.1 hx with e | e
    · exact .inl (List.mem_append.2 (.inl e))
    · exact (hS x e).imp (fun e => List.mem_append.2 (.inr e)) id
/-- one message more: w the world behind the making of the message, w2 behind the append of the literal -/
theorem OutI.snoc {S : List Nat} {w w2 : World} {v v2 dv : Value} {ms : List Msg} {vs : List Value} {m : Msg} {n : Nat} (hn : ms.length = n) (hS : ∀ x ∈ S, x < w.heap.size) (hv : ∀ g, v.ownBlock = some g → g ∉ S) (hm : MsOk (v.ownBlock.toList ++ S) w ms vs) (hd : BSl (v.ownBlock.toList ++ S) w dv m.data)
    (o2 : w2.ownsRow 0 44 3 v2 (n + 1) (vs ++ [.int .i64 m.frm, .int .i64 m.dst, dv])) (k2 : Kp v.ownBlock.toList (w.alloc (.cells #[.int .i64 m.frm, .int .i64 m.dst, dv] 44)) w2) (a2 : At (w.heap.size + 1) v.ownBlock v2.ownBlock) : OutI S w2 v2 (ms ++ [m]) := by
  have hg : ∀ g, v2.ownBlock = some g → (v.ownBlock = some g ∨ w.heap.size ≤ g) ∧ g ∉ S := by
    intro g e
    rcases a2 with e2 | ⟨y, e2, hy⟩
    · rw [e2] at e
      exact ⟨.inl e, hv g e⟩
    · rw [e2] at e
      cases e
      exact ⟨.inr (by omega), fun hm => by have := hS _ hm; omega⟩
  refine ⟨_, by rw [List.length_append, hn]; exact o2, fun g e => (hg g e).2, ?_⟩
  have k1 : Kp v.ownBlock.toList w w2 := ((Kp.refl v.ownBlock.toList w).alloc _).trans k2 (fun x hx => .inl hx)
  have hV : ∀ x ∈ v.ownBlock.toList, x ∈ v.ownBlock.toList ++ S ∨ w.heap.size ≤ x := fun x hx => .inl (List.mem_append.2 (.inl hx))
  have hS2 : ∀ x ∈ v2.ownBlock.toList ++ S, x ∈ v.ownBlock.toList ++ S ∨ w.heap.size ≤ x := by
    intro x hx
    rcases List.mem_append.1 hx with e | e
    · rcases (hg x (by simpa using e)).1 with e2 | e2
      · exact .inl (List.mem_append.2 (.inl (by simp [e2])))
      · exact .inr e2
    · exact .inl (List.mem_append.2 (.inr e))
  exact MsOk.snoc (hd.kp k1 hV hS2) (hm.kp k1 hV hS2)

/-- whom to ask turns -/
theorem CoP.whom {U : List Nat} {w w1 : World} {L : Lay} {cf : Cfg} {s : Cs} {κ : Nat → Nat} {VS VW VJ VD MV AV : Value} {l : List (ByteArray × Int)} (h : CoP U w L cf s κ VS VW VJ VD MV AV l) (sh x cw : Nat) (hVW : VW = .slice (some ⟨L.gw, 0, none⟩) s.whom.length cw) (hsh : sh < s.whom.length) (hw1 : w1 = w.setCell ⟨L.gw, sh, none⟩ (.int .i64 (x : Int))) :
    CoP U w1 L cf { s with whom := s.whom.set sh x } κ VS VW VJ VD MV AV l ∧ Kp [L.gw] w w1 := by
  subst hw1 hVW
  have k : Kp [L.gw] w (w.setCell ⟨L.gw, sh, none⟩ (.int .i64 (x : Int))) := (Kp.refl _ w).setCell (.inl (by simp)) _
  have hV' : ∀ x ∈ [L.gw], x ∈ L.all ++ U ∨ w.heap.size ≤ x := fun x hx => by
    simp only [List.mem_singleton] at hx
    subst hx
    exact .inl (List.mem_append.2 (.inl (Lay.mem.2 (by simp))))
  have hS' : ∀ x ∈ L.all ++ U, x ∈ L.all ++ U ∨ w.heap.size ≤ x := fun x hx => .inl hx
  have ne : ∀ x c, κ x = c → c ≠ 2 → x ∉ [L.gw] := fun x c hx hc hm => by
    simp only [List.mem_singleton] at hm
    subst hm
    have := h.sep.gw
    omega
  obtain ⟨_, _, ho⟩ := own_store h.wh.1 sh hsh (.int .i64 (x : Int))
  have e : (iv .i64 (s.whom.map fun (n : Nat) => (n : Int))).set sh (.int .i64 (x : Int)) = iv .i64 ((s.whom.set sh x).map fun (n : Nat) => (n : Int)) := by
    rw [List.map_set, iv, iv, List.map_set]
  rw [e] at ho
  refine ⟨⟨h.sep.grow k.size, k.blk h.hd (ne _ _ h.sep.b.1 (by decide)), h.sh.kp k hV' hS', ⟨by show World.ownsRow _ 0 _ 1 _ (s.whom.set sh x).length _; rw [List.length_set]; exact ho, h.wh.2⟩,
    h.jq.kp k (fun x e => ne _ _ (h.sep.gj x e).1 (by decide)), h.dn.kp k (fun x e => ne _ _ (h.sep.gd x e).1 (by decide)) hV' hS', h.jl,
    fun i j q h1 h2 => (h.ja i j q h1 h2).kp k (ne _ _ (h.sep.js q (List.mem_of_getElem? h2)).1 (by decide)) hV' hS', h.al, fun i a p h1 h2 => (h.aa i a p h1 h2).kp k (ne _ _ (h.sep.az p (List.mem_of_getElem? h2)).1 (by decide)) hV' hS',
    ⟨k.own h.aq.1 (fun x e => ne _ _ (h.sep.ga x (by rw [← h.aq.2]; exact e)).1 (by decide)), h.aq.2⟩, ⟨k.own h.mq.1 (fun x e => ne _ _ (h.sep.gm x (by rw [← h.mq.2.1]; exact e)).1 (by decide)), h.mq.2.1, h.mq.2.2⟩, h.no⟩, k⟩

/-- a job has ended: w1 behind the append of its result and the two stores -/
theorem CoP.ends {U : List Nat} {w w1 : World} {L : Lay} {cf : Cfg} {s : Cs} {κ : Nat → Nat} {VS VW VJ VD MV AV VJ1 VD1 : Value} {l : List (ByteArray × Int)} (h : CoP U w L cf s κ VS VW VJ VD MV AV l) {j : Job} {jr : List Job} {p0 : Nat} {ps : List Nat} {r : Res}
    (hj : s.jobs = j :: jr) (hjs : L.js = p0 :: ps) (k : Kp (L.b :: p0 :: (L.gd.toList ++ L.gm.toList)) w w1)
    (hb : w1.heap[L.b]? = some (.cells #[.int .i64 (cf.id : Int), .int .i64 (cf.pat : Int), .int .i64 (cf.tries : Int), VS, VW, VJ1, .int .i64 (nextJ s : Int), .int .i64 (s.ctx : Int), VD1] 95 (0, 0)))
    (hq : Que w1 VJ1 L.gj ps) (hat : ∀ x, VD1.ownBlock = some x → L.gd = some x ∨ w.heap.size ≤ x ∧ x < w1.heap.size)
    (hd : ∀ S2, (∀ x ∈ S2, x ∈ L.b :: L.gw :: (L.gj.toList ++ L.js) ++ U ∨ VD1.ownBlock = some x) → DoneAt S2 w1 VD1 VD1.ownBlock (s.done ++ [r])) :
    ∃ L', CoSt U w1 L' cf (endJob s r) ∧ Grew w L L' ∧ L'.js = ps := by
  have hs := k.size
  let L' : Lay := ⟨L.b, L.gw, L.gj, VD1.ownBlock, none, none, ps, []⟩
  have hkp : ∀ x ∈ L.b :: p0 :: (L.gd.toList ++ L.gm.toList), (κ x = 1 ∨ x = p0 ∨ κ x = 4 ∨ κ x = 6) ∧ x ∈ L.all := by
    intro x hx
    rcases List.mem_cons.1 hx with rfl | hx
    · exact ⟨.inl h.sep.b.1, Lay.mem.2 (.inl rfl)⟩
    · rcases List.mem_cons.1 hx with rfl | hx
      · exact ⟨.inr (.inl rfl), Lay.mem.2 (by simp [hjs])⟩
      · rcases List.mem_append.1 hx with hx | hx
        · have e : L.gd = some x := by simpa using hx
          exact ⟨.inr (.inr (.inl (h.sep.gd x e).1)), Lay.mem.2 (by simp [e])⟩
        · have e : L.gm = some x := by simpa using hx
          exact ⟨.inr (.inr (.inr (h.sep.gm x e).1)), Lay.mem.2 (by simp [e])⟩
  have hp7 := h.sep.js p0 (by rw [hjs]; simp)
  have hV' : ∀ x ∈ L.b :: p0 :: (L.gd.toList ++ L.gm.toList), x ∈ L.all ++ U ∨ w.heap.size ≤ x := fun x hx => .inl (List.mem_append.2 (.inl (hkp x hx).2))
  have hall : ∀ x ∈ L'.all, x ∈ L.b :: L.gw :: (L.gj.toList ++ L.js) ∨ VD1.ownBlock = some x := by
    intro x hx
    rcases Lay.mem.1 hx with e | e | e | e | e | e | e | e
    · exact .inl (by simp [show x = L.b from e])
    · exact .inl (by simp [show x = L.gw from e])
    · exact .inl (by simp [show L.gj = some x from e])
    · exact .inr e
    · cases e
    · cases e
    · exact .inl (by simp [hjs, show x ∈ ps from e])
    · cases e
  have hsub : ∀ x ∈ L.b :: L.gw :: (L.gj.toList ++ L.js), x ∈ L.all := by
    intro x hx
    simp only [List.mem_cons, List.mem_append, Option.mem_toList] at hx
    rcases hx with e | e | e | e
    · exact Lay.mem.2 (.inl e)
    · exact Lay.mem.2 (.inr (.inl e))
    · exact Lay.mem.2 (by simp [e])
    · exact Lay.mem.2 (by simp [e])
  have hgr : ∀ x ∈ L'.all, x ∈ L.all ∨ w.heap.size ≤ x := by
    intro x hx
    rcases hall x hx with e | e
    · exact .inl (hsub x e)
    · rcases hat x e with e2 | e2
      · exact .inl (Lay.mem.2 (by simp [e2]))
      · exact .inr e2.1
  have hS' : ∀ x ∈ L'.all ++ U, x ∈ L.all ++ U ∨ w.heap.size ≤ x := by
    intro x hx
    rcases List.mem_append.1 hx with e | e
    · exact (hgr x e).imp (fun e => List.mem_append.2 (.inl e)) id
    · exact .inl (List.mem_append.2 (.inr e))
  have ne : ∀ x c, κ x = c → c ≠ 1 → (x ≠ p0 ∧ c ≠ 4 ∧ c ≠ 6) → x ∉ L.b :: p0 :: (L.gd.toList ++ L.gm.toList) := fun x c hx c1 c4 hm => by
    rcases (hkp x hm).1 with e | e | e | e
    · omega
    · exact c4.1 e
    · omega
    · omega
  have lo : ∀ x c, κ x = c ∧ x < w.heap.size → c ≠ 4 → (if VD1.ownBlock = some x then 4 else κ x) = c ∧ x < w1.heap.size := by
    intro x c hx hc
    rw [if_neg]
    · exact ⟨hx.1, by omega⟩
    · intro e
      rcases hat x e with e2 | e2
      · have := h.sep.gd x e2; omega
      · omega
  have hjn := h.sep.jn
  rw [hjs] at hjn
  refine ⟨L', ⟨fun x => if VD1.ownBlock = some x then 4 else κ x, VS, VW, VJ1, VD1, .slice none 0 0, .slice none 0 0, [], ⟨lo _ _ h.sep.b (by decide), lo _ _ h.sep.gw (by decide), fun x e => lo _ _ (h.sep.gj x e) (by decide), fun x e => ?_, fun x e => (by cases e), fun x e => (by cases e), fun x e => lo _ _ (h.sep.js x (by rw [hjs]; exact List.mem_cons_of_mem _ e)) (by decide), fun x e => (by cases e), (List.nodup_cons.1 hjn).2, List.nodup_nil, fun x e => lo _ _ (h.sep.U x e) (by decide)⟩,
    ?_, h.sh.kp k hV' hS', ⟨k.own h.wh.1 (fun x e => ?_), h.wh.2⟩, hq, hd _ (fun x hx => ?_), ?_, fun i j2 p h1 h2 => ?_, rfl, fun i a p h1 h2 => ?_, ⟨World.ownsRow_nil _ 0 _ 1, rfl⟩, ⟨World.ownsRow_nil _ 0 _ 2, rfl, by simp [endJob]⟩, fun _ => ⟨rfl, rfl⟩⟩, ⟨rfl, hgr⟩, rfl⟩
  · show (if VD1.ownBlock = some x then 4 else κ x) = 4 ∧ x < w1.heap.size
    have e' : VD1.ownBlock = some x := e
    rw [if_pos e']
    refine ⟨rfl, ?_⟩
    rcases hat x e' with e2 | e2
    · have := h.sep.gd x e2; omega
    · exact e2.2
  · have e : nextJ (endJob s r) = nextJ s := by simp [nextJ, endJob, hj]; omega
    rw [e]
    exact hb
  · rw [h.wh.2] at e
    cases e
    have := h.sep.gw
    exact ne _ _ h.sep.gw.1 (by decide) ⟨fun e => (by rw [e] at this; omega), by decide, by decide⟩
  · rcases List.mem_append.1 hx with e | e
    · exact (hall x e).imp (fun e => List.mem_append.2 (.inl e)) id
    · exact .inl (List.mem_append.2 (.inr e))
  · show ps.length = s.jobs.tail.length
    have := h.jl
    rw [hj, hjs] at this
    rw [hj]
    simpa using this
  · have h1 : s.jobs.tail[i]? = some j2 := h1
    have h2 : ps[i]? = some p := h2
    rw [hj] at h1
    have hh := h.ja (i + 1) j2 p (by rw [hj]; exact h1) (by rw [hjs]; exact h2)
    rw [if_neg (by omega), if_neg (by omega)] at hh
    have hne : p ≠ p0 := fun e => (List.nodup_cons.1 hjn).1 (by rw [← e]; exact List.mem_of_getElem? h2)
    have h3 := hh.kp k (ne _ _ (h.sep.js p (by rw [hjs]; exact List.mem_cons_of_mem _ (List.mem_of_getElem? h2))).1 (by decide) ⟨hne, by decide, by decide⟩) hV' hS'
    rw [show s.ended + (i + 1) = (endJob s r).ended + i from by show _ = s.ended + 1 + i; omega] at h3
    simpa using h3
  · cases h2
end Go.Proofs.YtdiljpdohmeceaaGreat.co

/- coord: a job more: (*Coord).gives. -/
namespace Go.Proofs.YtdiljpdohmeceaaGreat.co
open Go.RowKit H O opk frame wir

theorem info_job : (Tryz.prog.info? 88).map (fun i => (i.zero, i.size, i.bytes)) = some (some (.pointer none), 1, 8) := by kernel_rfl
theorem Que.of_own {w : World} {v : Value} {ps : List Nat} (h : w.ownsRow 0 88 1 v ps.length (ps.map ptr)) : Que w v v.ownBlock ps := by
  rcases h.2 with ⟨rfl, h0⟩ | ⟨g, cap, cur, rfl, _, hg, h1, h2, h3, h4⟩
  · exact .inl ⟨rfl, rfl, List.eq_nil_of_length_eq_zero h0⟩
  · refine .inr ⟨g, 0, cap, cur, rfl, rfl, hg, h1, by omega, h2, fun i p hi => ?_⟩
    have hl := (List.getElem?_eq_some_iff.1 hi).1
    have e : (cur.toList.take (ps.length * 1))[i]? = some (ptr p) := by
      rw [h4, List.getElem?_map, hi]
      rfl
    rw [List.getElem?_take, if_pos (by omega)] at e
    simpa using e
/-- one pointer more -/
theorem run_que {w : World} {v : Value} {g : Option Nat} {ps : List Nat} (hq : Que w v g ps) (ty : TypeId) (x p : Nat) (hx : w.cell? ⟨x, 0, none⟩ = some (ptr p)) (hl : ps.length + 1 ≤ 1000000) :
    ∃ v' w' g', (Builtin.append_ #[93, 93] ty #[v, .slice (some ⟨x, 0, none⟩) 1 1]).run Tryz.prog w = .ok v' w' ∧ Que w' v' g' (ps ++ [p]) ∧ Kp g.toList w w' ∧ At w.heap.size g g' ∧ v'.ownBlock = g' := by
  have hrd : Rd w (some ⟨x, 0, none⟩) [ptr p] := by
    intro j u hj
    match j, hj with
    | 0, hj => simp at hj; subst hj; exact ⟨_, rfl, by rw [add_zero']; exact hx⟩
  obtain ⟨i, hi, hz, hs, hby⟩ := info_parts info_job
  rcases hq with ⟨rfl, rfl, rfl⟩ | ⟨b, o, c, cur, rfl, rfl, hb, h1, h2, h3, h4⟩
  · obtain ⟨v', w', hr, h2, h3, h4, h5⟩ := run_app (P := Tryz.prog) w 93 ty 88 (.pointer none) 1 8 Tryz.underlying93 info_job rfl (by decide) (.slice none 0 0) 0 [] (World.ownsRow_nil w 0 _ 1) (some ⟨x, 0, none⟩) 1 1 [ptr p] rfl hrd (by simp) (by simp [ptr, Value.oneCell']) (by omega) (by omega)
    exact ⟨v', w', v'.ownBlock, hr, Que.of_own (ps := [p]) (by simpa using h2), by simpa [Value.ownBlock] using h3, h4, rfl⟩
  · have hnews : ∀ (j : Nat) (u : Value), [ptr p][j]? = some u → w.cell? ((⟨x, 0, none⟩ : Addr).add j) = some u := by
      intro j u hj
      obtain ⟨a, ha, hc⟩ := hrd j u hj
      cases ha
      exact hc
    by_cases hroom : ps.length + 1 ≤ c
    · have hr := run_append_room_cells (P := Tryz.prog) w 93 ty 88 i Tryz.underlying93 hi b o ps.length c ⟨x, 0, none⟩ 1 1 [ptr p] (by rw [hs]; rfl) hnews (by simp [ptr, Value.oneCell']) hroom
        (fun j hj => by
          have hj0 : j = 0 := by simp at hj; omega
          subst hj0
          have hlt : o + ps.length * i.size + 0 < cur.size := by rw [hs]; omega
          rw [blk_cell hb (o + ps.length * i.size + 0) (v := cur[o + ps.length * i.size + 0]) (by simp)]
          rfl)
        (fun j hj => frozen_of_row w b _ cur _ hb)
      rw [hs, Nat.mul_one] at hr
      refine ⟨_, _, some b, hr, .inr ⟨b, o, c, cur.setIfInBounds (o + ps.length) (ptr p), rfl, by rw [List.length_append]; rfl, heap_setCell_same w b (o + ps.length) cur _ (ptr p) hb, by rw [List.length_append]; simpa using hroom, by simpa using h2, h3, fun j q hj => ?_⟩, (Kp.refl [b] w).setCell (.inl (by simp)) _, .inl rfl, rfl⟩
      by_cases hjl : j < ps.length
      · rw [List.getElem?_append_left hjl] at hj
        rw [Array.getElem?_setIfInBounds_ne (by omega)]
        exact h4 j q hj
      · have hj2 : j = ps.length := by
          have := (List.getElem?_eq_some_iff.1 hj).1
          rw [List.length_append, List.length_singleton] at this
          omega
        subst hj2
        rw [List.getElem?_append_right (Nat.le_refl _)] at hj
        simp at hj
        subst hj
        rw [Array.getElem?_setIfInBounds_self]
        simp; omega
    · have hold : ∀ (j : Nat) (u : Value), (ps.map ptr)[j]? = some u → w.cell? ((⟨b, o, none⟩ : Addr).add j) = some u := by
        intro j u hj
        rw [List.getElem?_map] at hj
        cases e : ps[j]? with
        | none => rw [e] at hj; cases hj
        | some q =>
          rw [e] at hj
          cases hj
          rw [Go.WideShapes.add_plain]
          exact blk_cell hb _ (h4 j q e)
      obtain ⟨v', w', hr, g1, g2⟩ := run_append_arg_grows (P := Tryz.prog) w 93 ty 88 i (.pointer none) 1 8 Tryz.underlying93 hi hz hs hby rfl (by decide) ⟨b, o, none⟩ ps.length c (ps.map ptr) (by simp) hold ⟨x, 0, none⟩ 1 1 [ptr p] rfl hnews (by omega) (by simp [maxLen]; omega) (by omega)
      have g3 : w'.ownsRow 0 88 1 v' (ps ++ [p]).length ((ps ++ [p]).map ptr) := by
        have := own_base g1 (base' := 0) (fun _ _ => Nat.zero_le _)
        simpa using this
      refine ⟨v', w', v'.ownBlock, hr, Que.of_own g3, ((Kp.refl [] w).grown g2 (by simp)).mono (by simp), ?_, rfl⟩
      obtain ⟨g', cap, rfl, _⟩ := own_form g3 (by simp)
      refine .inr ⟨g', rfl, ?_⟩
      rcases g1.2 with ⟨e, _⟩ | ⟨g'', cap', cur', e, hle, _⟩
      · simp at e
      · simp only [Value.slice.injEq, Option.some.injEq, Addr.mk.injEq] at e
        have := e.1.1
        omega
theorem wpList_que {w : World} {ops : Array Oper} {rest : List Oper} {o : Oper} {a : Act} {Q : Exit → Act → World → Prop} (hgd : o.guard = none) (s x : Operand)
    (ho : o.op = .call { callee := .builtin .append, args := #[s, x], argTypes := #[93, 93] })
    (v : Value) (g : Option Nat) (ps : List Nat) (hs : a.eval s = v) (hq : Que w v g ps) (y p : Nat) (hx : a.eval x = .slice (some ⟨y, 0, none⟩) 1 1) (hy : w.cell? ⟨y, 0, none⟩ = some (ptr p)) (hl : ps.length + 1 ≤ 1000000)
    (h : ∀ v' w' g', Que w' v' g' (ps ++ [p]) → Kp g.toList w w' → At w.heap.size g g' → v'.ownBlock = g' → wpList Tryz.prog ops Q rest (a.put o.dst v') w') : wpList Tryz.prog ops Q (o :: rest) a w := by
  refine wpList_plain hgd fun K hK => ?_
  obtain ⟨v', w', g', hr, h2, h3, h4, h5⟩ := run_que hq o.type y p hy hl
  unfold Oper.wp execOp
  simp only [ho, resolve, invoke, builtin, Sem.run_bind, Sem.run_pure, Result.andThen_ok, List.map_toArray, List.map_cons, List.map_nil, hs, hx, hr]
  exact hK _ _ (h v' w' g' h2 h3 h4 h5)

/-- a job more: w1 behind all stores; p the job's block -/
theorem CoP.more {U : List Nat} {w w1 : World} {L : Lay} {cf : Cfg} {s : Cs} {κ : Nat → Nat} {VS VW VJ VD MV AV VJ1 : Value} {l : List (ByteArray × Int)} {p : Nat} (h : CoP (p :: U) w L cf s κ VS VW VJ VD MV AV l) {j : Job} {g1 : Option Nat} (hpu : p ∉ U) (hno : s.jobs = [] → s.asks = [])
    (k : Kp (L.b :: p :: L.gj.toList) w w1)
    (hb : w1.heap[L.b]? = some (.cells #[.int .i64 (cf.id : Int), .int .i64 (cf.pat : Int), .int .i64 (cf.tries : Int), VS, VW, VJ1, .int .i64 ((nextJ s + 1 : Nat) : Int), .int .i64 (s.ctx : Int), VD] 95 (0, 0)))
    (hq : Que w1 VJ1 g1 (L.js ++ [p])) (hat : ∀ x, g1 = some x → L.gj = some x ∨ w.heap.size ≤ x)
    (hj : ∀ S2, (∀ x ∈ S2, x ∈ L.all ++ (p :: U) ∨ w.heap.size ≤ x) → JobAt S2 w1 p cf.id (nextJ s) j (.slice none 0 0) (.slice none 0 0)) :
    ∃ L', CoSt U w1 L' cf (gives s j) ∧ L'.b = L.b ∧ (∀ x ∈ L'.all, x ∈ L.all ∨ x = p ∨ w.heap.size ≤ x) := by
  have hs := k.size
  have hpU := h.sep.U p (by simp)
  have hkp : ∀ x ∈ L.b :: p :: L.gj.toList, (κ x = 1 ∨ κ x = 0 ∨ κ x = 3) ∧ (x ∈ L.all ∨ x = p) := by
    intro x hx
    rcases List.mem_cons.1 hx with rfl | hx
    · exact ⟨.inl h.sep.b.1, .inl (Lay.mem.2 (.inl rfl))⟩
    · rcases List.mem_cons.1 hx with rfl | hx
      · exact ⟨.inr (.inl hpU.1), .inr rfl⟩
      · have e : L.gj = some x := by simpa using hx
        exact ⟨.inr (.inr (h.sep.gj x e).1), .inl (Lay.mem.2 (by simp [e]))⟩
  have hV' : ∀ x ∈ L.b :: p :: L.gj.toList, x ∈ L.all ++ (p :: U) ∨ w.heap.size ≤ x := by
    intro x hx
    rcases (hkp x hx).2 with e | e
    · exact .inl (List.mem_append.2 (.inl e))
    · exact .inl (List.mem_append.2 (.inr (by simp [e])))
  let L' : Lay := { L with gj := g1, js := L.js ++ [p] }
  have hgr : ∀ x ∈ L'.all, x ∈ L.all ∨ x = p ∨ w.heap.size ≤ x := by
    intro x hx
    rcases Lay.mem.1 hx with e | e | e | e | e | e | e | e
    · exact .inl (Lay.mem.2 (by simp [show x = L.b from e]))
    · exact .inl (Lay.mem.2 (by simp [show x = L.gw from e]))
    · rcases hat x e with e2 | e2
      · exact .inl (Lay.mem.2 (by simp [e2]))
      · exact .inr (.inr e2)
    · exact .inl (Lay.mem.2 (by simp [show L.gd = some x from e]))
    · exact .inl (Lay.mem.2 (by simp [show L.ga = some x from e]))
    · exact .inl (Lay.mem.2 (by simp [show L.gm = some x from e]))
    · have e : x ∈ L.js ++ [p] := e
      rcases List.mem_append.1 e with e2 | e2
      · exact .inl (Lay.mem.2 (by simp [e2]))
      · exact .inr (.inl (by simpa using e2))
    · exact .inl (Lay.mem.2 (by simp [show x ∈ L.az from e]))
  have hS' : ∀ x ∈ L'.all ++ U, x ∈ L.all ++ (p :: U) ∨ w.heap.size ≤ x := by
    intro x hx
    rcases List.mem_append.1 hx with e | e
    · rcases hgr x e with e2 | e2 | e2
      · exact .inl (List.mem_append.2 (.inl e2))
      · exact .inl (List.mem_append.2 (.inr (by simp [e2])))
      · exact .inr e2
    · exact .inl (List.mem_append.2 (.inr (List.mem_cons_of_mem _ e)))
  have ne : ∀ x c, κ x = c → c ≠ 0 → c ≠ 1 → c ≠ 3 → x ∉ L.b :: p :: L.gj.toList := fun x c hx c0 c1 c3 hm => by
    rcases (hkp x hm).1 with e | e | e <;> omega
  have lo : ∀ x c, κ x = c ∧ x < w.heap.size → c ≠ 0 → c ≠ 3 → (if x = p then 7 else if g1 = some x then 3 else κ x) = c ∧ x < w1.heap.size := by
    intro x c hx c0 c3
    rw [if_neg (fun e => by rw [e] at hx; omega), if_neg]
    · exact ⟨hx.1, by omega⟩
    · intro e
      rcases hat x e with e2 | e2
      · have := h.sep.gj x e2; omega
      · omega
  have lo0 : ∀ x ∈ U, (if x = p then 7 else if g1 = some x then 3 else κ x) = 0 ∧ x < w1.heap.size := by
    intro x hx
    have h0 := h.sep.U x (List.mem_cons_of_mem _ hx)
    rw [if_neg (fun e => hpu (by rw [← e]; exact hx)), if_neg]
    · exact ⟨h0.1, by omega⟩
    · intro e
      rcases hat x e with e2 | e2
      · have := h.sep.gj x e2; omega
      · omega
  refine ⟨L', ⟨fun x => if x = p then 7 else if g1 = some x then 3 else κ x, VS, VW, VJ1, VD, MV, AV, l, ⟨lo _ _ h.sep.b (by decide) (by decide), lo _ _ h.sep.gw (by decide) (by decide), fun x e => ?_, fun x e => lo _ _ (h.sep.gd x e) (by decide) (by decide), fun x e => lo _ _ (h.sep.ga x e) (by decide) (by decide), fun x e => lo _ _ (h.sep.gm x e) (by decide) (by decide), fun x e => ?_, fun x e => lo _ _ (h.sep.az x e) (by decide) (by decide), ?_, h.sep.an, lo0⟩,
    ?_, h.sh.kp k hV' hS', ⟨k.own h.wh.1 (fun x e => ?_), h.wh.2⟩, hq, h.dn.kp k (fun x e => ne _ _ (h.sep.gd x e).1 (by decide) (by decide) (by decide)) hV' hS', ?_, fun i j2 q h1 h2 => ?_, h.al, fun i a q h1 h2 => (h.aa i a q h1 h2).kp k (ne _ _ (h.sep.az q (List.mem_of_getElem? h2)).1 (by decide) (by decide) (by decide)) hV' hS',
    ⟨k.own h.aq.1 (fun x e => ne _ _ (h.sep.ga x (by rw [← h.aq.2]; exact e)).1 (by decide) (by decide) (by decide)), h.aq.2⟩, ⟨k.own h.mq.1 (fun x e => ne _ _ (h.sep.gm x (by rw [← h.mq.2.1]; exact e)).1 (by decide) (by decide) (by decide)), h.mq.2⟩, h.no⟩, rfl, hgr⟩
  · have e : g1 = some x := e
    show (if x = p then 7 else if g1 = some x then 3 else κ x) = 3 ∧ x < w1.heap.size
    rw [if_neg, if_pos e]
    · exact ⟨rfl, hq.lt x e⟩
    · intro e2
      rcases hat x e with e3 | e3
      · have := h.sep.gj x e3
        rw [e2] at this
        omega
      · rw [e2] at e3
        omega
  · have e : x ∈ L.js ++ [p] := e
    rcases List.mem_append.1 e with e2 | e2
    · exact lo _ _ (h.sep.js x e2) (by decide) (by decide)
    · have e3 : x = p := by simpa using e2
      show (if x = p then 7 else if g1 = some x then 3 else κ x) = 7 ∧ x < w1.heap.size
      rw [if_pos e3, e3]
      exact ⟨rfl, by omega⟩
  · show (L.js ++ [p]).Nodup
    rw [List.nodup_append]
    refine ⟨h.sep.jn, by simp, fun x hx y hy => ?_⟩
    have := h.sep.js x hx
    simp at hy
    intro e
    rw [e, hy] at this
    omega
  · have e : nextJ (gives s j) = nextJ s + 1 := by simp [nextJ, gives]; omega
    rw [e]
    exact hb
  · rw [h.wh.2] at e
    cases e
    exact ne _ _ h.sep.gw.1 (by decide) (by decide) (by decide)
  · show (L.js ++ [p]).length = (s.jobs ++ [j]).length
    rw [List.length_append, List.length_append, h.jl]
    rfl
  · have h1 : (s.jobs ++ [j])[i]? = some j2 := h1
    have h2 : (L.js ++ [p])[i]? = some q := h2
    by_cases hi : i < s.jobs.length
    · rw [List.getElem?_append_left hi] at h1
      rw [List.getElem?_append_left (by rw [h.jl]; exact hi)] at h2
      exact (h.ja i j2 q h1 h2).kp k (ne _ _ (h.sep.js q (List.mem_of_getElem? h2)).1 (by decide) (by decide) (by decide)) hV' hS'
    · have hi2 : i = s.jobs.length := by
        have := (List.getElem?_eq_some_iff.1 h1).1
        rw [List.length_append, List.length_singleton] at this
        omega
      subst hi2
      rw [List.getElem?_append_right (Nat.le_refl _)] at h1
      rw [← h.jl, List.getElem?_append_right (Nat.le_refl _)] at h2
      simp at h1 h2
      subst h1 h2
      have h9 := hj _ hS'
      have e1 : (if s.jobs.length = 0 then MV else .slice none 0 0) = .slice none 0 0 := by
        split
        · rename_i h0
          exact (h.no (hno (List.eq_nil_of_length_eq_zero h0))).2
        · rfl
      have e2 : (if s.jobs.length = 0 then AV else .slice none 0 0) = .slice none 0 0 := by
        split
        · rename_i h0
          exact (h.no (hno (List.eq_nil_of_length_eq_zero h0))).1
        · rfl
      rw [e1, e2]
      exact h9
end Go.Proofs.YtdiljpdohmeceaaGreat.co
