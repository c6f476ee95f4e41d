/- coord: plain words: jobs, asks, what a Tick does, what a message does. No program in sight. -/
import Derived.Test.YtdiljpdohmeceaaGreatBase
import Derived.Test.YtdiljpdohmeceaaGreatCoA
namespace Go.Proofs.YtdiljpdohmeceaaGreat.co
open Go.RowKit H O opk frame wir

/-- a message -/
structure Msg where
  frm : Int
  dst : Int
  data : List Int
/-- how a job ended -/
structure Res where
  job : Nat
  err : Int
  was : Bool
  has : Bool
  text : List Int
  ms : List (ByteArray × Int)
/-- a job: 1 a Put, 2 a Delete, 3 a Get, 4 a Find -/
structure Job where
  kind : Nat
  key : ByteArray
  text : List Int
/-- what one shard is asked -/
structure Ask where
  shard : Nat
  ctx : Nat
  frame : List Int
  tried : Nat
  waited : Nat
  hinted : Bool
  answered : Bool
  ms : List (ByteArray × Int)
structure Cfg where
  id : Nat
  pat : Nat
  tries : Nat
  shards : List (List Int)
structure Cs where
  whom : List Nat
  jobs : List Job
  ended : Nat
  ctx : Nat
  asks : List Ask
  done : List Res

/-- a key's digest -/
def hashStep (h c : Int) : Int := IntKind.u64.wrap (bits .xor .u64 h c * 1099511628211)
def hashL (l : List Int) : Int := l.foldl hashStep 14695981039346656037
theorem hashL_nil : hashL [] = 14695981039346656037 := rfl
theorem hashL_snoc (l : List Int) (c : Int) : hashL (l ++ [c]) = hashStep (hashL l) c := by simp [hashL]
theorem hashL_step (l : List Int) (k : Nat) (h : k < l.length) : hashL (l.take (k + 1)) = hashStep (hashL (l.take k)) l[k] := by
  rw [take_succ' l k h, hashL_snoc]
theorem hashStep_pos (h c : Int) : 0 ≤ hashStep h c ∧ hashStep h c < 18446744073709551616 := by
  unfold hashStep
  rw [IntKind.wrap_u64]
  omega
theorem hashL_pos (l : List Int) : 0 ≤ hashL l ∧ hashL l < 18446744073709551616 := by
  rcases List.eq_nil_or_concat l with rfl | ⟨l', c, rfl⟩
  · rw [hashL_nil]; omega
  · rw [List.concat_eq_append, hashL_snoc]; exact hashStep_pos _ _
/-- a key's shard among n -/
def shardOf (key : List Int) (n : Nat) : Nat := (hashL key % (n : Int)).toNat
theorem shardOf_lt (key : List Int) {n : Nat} (h : 0 < n) : shardOf key n < n := by
  unfold shardOf
  have := Int.emod_lt_of_pos (hashL key) (show (0 : Int) < n by omega)
  have := Int.emod_nonneg (hashL key) (show (n : Int) ≠ 0 by omega)
  omega

/-- the wire's kind of a job's requests -/
def wkind (j : Job) : Int := if j.kind = 1 then 1 else if j.kind = 2 then 1 else if j.kind = 3 then 3 else 2
/-- what a job's requests have -/
def jdata (cf : Cfg) (num : Nat) (j : Job) : List Int :=
  if j.kind = 1 then opBytes 1 cf.id ((num : Int) + 1) j.key j.text else if j.kind = 2 then opBytes 2 cf.id ((num : Int) + 1) j.key [] else if j.kind = 3 then kb j.key else j.text
def frameOf (cf : Cfg) (num : Nat) (j : Job) (ctx shard : Nat) : List Int := fEnc (pay 113 [wkind j, (ctx : Int), (shard : Int)] (jdata cf num j))
/-- the shards that a job asks -/
def jshards (cf : Cfg) (j : Job) : List Nat := if j.kind = 4 then List.range cf.shards.length else [shardOf (kb j.key) cf.shards.length]
def newAsk (cf : Cfg) (num : Nat) (j : Job) (t ctx shard : Nat) : Ask := ⟨shard, ctx, frameOf cf num j ctx shard, t, 0, false, false, []⟩
def mkAsks (cf : Cfg) (num : Nat) (j : Job) (t : Nat) : Nat → List Nat → List Ask
  | _, [] => []
  | ctx, s :: l => newAsk cf num j t (ctx + 1) s :: mkAsks cf num j t (ctx + 1) l
theorem mkAsks_len (cf : Cfg) (num : Nat) (j : Job) (t ctx : Nat) (l : List Nat) : (mkAsks cf num j t ctx l).length = l.length := by
  induction l generalizing ctx with
  | nil => rfl
  | cons s l ih => simp [mkAsks, ih]
theorem mkAsks_snoc (cf : Cfg) (num : Nat) (j : Job) (t ctx : Nat) (l : List Nat) (s : Nat) : mkAsks cf num j t ctx (l ++ [s]) = mkAsks cf num j t ctx l ++ [newAsk cf num j t (ctx + l.length + 1) s] := by
  induction l generalizing ctx with
  | nil => rfl
  | cons x l ih =>
    simp only [List.cons_append, mkAsks, ih, List.length_cons]
    rw [show ctx + 1 + l.length + 1 = ctx + (l.length + 1) + 1 by omega]
theorem mkAsks_get (cf : Cfg) (num : Nat) (j : Job) (t : Nat) : ∀ (ctx : Nat) (l : List Nat) (i : Nat) (h : i < l.length), (mkAsks cf num j t ctx l)[i]? = some (newAsk cf num j t (ctx + i + 1) l[i])
  | ctx, s :: l, 0, _ => rfl
  | ctx, s :: l, i + 1, h => by
    simp only [mkAsks, List.getElem?_cons_succ, List.getElem_cons_succ]
    rw [mkAsks_get cf num j t (ctx + 1) l i (by simpa using h), show ctx + 1 + i + 1 = ctx + (i + 1) + 1 by omega]

/-- whom a shard's ask goes to -/
def dest (cf : Cfg) (whom : List Nat) (s : Nat) : Int := (cf.shards.getD s []).getD (whom.getD s 0) 0
def msgOf (cf : Cfg) (whom : List Nat) (a : Ask) : Msg := ⟨cf.id, dest cf whom a.shard, a.frame⟩
/-- the next one of a shard -/
def nextW (cf : Cfg) (whom : List Nat) (s : Nat) : List Nat := whom.set s ((whom.getD s 0 + 1) % (cf.shards.getD s []).length)

/-- a job ends -/
def endJob (s : Cs) (r : Res) : Cs := { s with jobs := s.jobs.tail, ended := s.ended + 1, asks := [], done := s.done ++ [r] }
def endErr (s : Cs) (e : Int) : Cs := endJob s ⟨s.ended, e, false, false, [], []⟩

/-- a Tick at the asks from k on: whom to ask, the asks, what is sent; has the job's time run out? -/
def tkGo (cf : Cfg) : Nat → Nat → List Nat → List Ask → List Msg → List Nat × List Ask × List Msg × Bool
  | 0, _, wh, az, out => (wh, az, out, false)
  | f + 1, k, wh, az, out =>
    match az[k]? with
    | none => (wh, az, out, false)
    | some a =>
      if a.answered = true then tkGo cf f (k + 1) wh az out
      else if a.waited + 1 < cf.pat then tkGo cf f (k + 1) wh (az.set k { a with waited := a.waited + 1 }) out
      else if cf.tries ≤ a.tried then (wh, az.set k { a with waited := a.waited + 1 }, out, true)
      else tkGo cf f (k + 1) (nextW cf wh a.shard) (az.set k { a with waited := 0, tried := a.tried + 1, hinted := false }) (out ++ [msgOf cf (nextW cf wh a.shard) a])
def tick (cf : Cfg) (s : Cs) : Cs × List Msg :=
  match s.jobs with
  | [] => (s, [])
  | j :: _ =>
    if s.asks = [] then
      ({ s with asks := mkAsks cf s.ended j 1 s.ctx (jshards cf j), ctx := s.ctx + (jshards cf j).length }, (mkAsks cf s.ended j 1 s.ctx (jshards cf j)).map (msgOf cf s.whom))
    else
      match tkGo cf s.asks.length 0 s.whom s.asks [] with
      | (wh, az, out, true) => (endErr { s with whom := wh, asks := az } 14, out)
      | (wh, az, out, false) => ({ s with whom := wh, asks := az }, out)

/-- a new job -/
def gives (s : Cs) (j : Job) : Cs := { s with jobs := s.jobs ++ [j] }
def isKey (key : ByteArray) : Bool := decide (1 ≤ key.size ∧ key.size ≤ 64)
/-- the number that the next job gets -/
def nextJ (s : Cs) : Nat := s.ended + s.jobs.length

/-! What may be. -/
structure JobOk (j : Job) : Prop where
  kind : 1 ≤ j.kind ∧ j.kind ≤ 4
  key : j.kind ≠ 4 → 1 ≤ j.key.size ∧ j.key.size ≤ 64
  text : j.text.length ≤ 4096 ∧ Wf j.text
structure CfgOk (cf : Cfg) : Prop where
  id : 7 ≤ cf.id ∧ cf.id ≤ 255
  pat : 1 ≤ cf.pat ∧ cf.pat ≤ 1000
  tries : 1 ≤ cf.tries ∧ cf.tries ≤ 1000
  len : 1 ≤ cf.shards.length ∧ cf.shards.length ≤ 8
  grp : ∀ x ∈ cf.shards, Grp x
structure AskOk (cf : Cfg) (ctx : Nat) (a : Ask) : Prop where
  shard : a.shard < cf.shards.length
  ctx : 1 ≤ a.ctx ∧ a.ctx ≤ ctx
  frame : a.frame.length ≤ 10000 ∧ Wf a.frame
  tried : a.tried ≤ cf.tries
  waited : a.waited ≤ 1001
structure CsOk (cf : Cfg) (s : Cs) : Prop where
  cfg : CfgOk cf
  wlen : s.whom.length = cf.shards.length
  whom : ∀ i (h : i < s.whom.length) (h2 : i < cf.shards.length), s.whom[i] < cf.shards[i].length
  jobs : ∀ j ∈ s.jobs, JobOk j
  asks : ∀ a ∈ s.asks, AskOk cf s.ctx a
  none : s.jobs = [] → s.asks = []
  few : s.asks.length ≤ 8
theorem CsOk.ask {cf : Cfg} {s : Cs} (h : CsOk cf s) (i : Nat) {a : Ask} (ha : AskOk cf s.ctx a) : CsOk cf { s with asks := s.asks.set i a } := by
  refine ⟨h.cfg, h.wlen, h.whom, h.jobs, fun x hx => ?_, fun e => ?_, by show (s.asks.set i a).length ≤ 8; rw [List.length_set]; exact h.few⟩
  · rcases List.mem_or_eq_of_mem_set hx with e | e
    · exact h.asks x e
    · rw [e]; exact ha
  · have := h.none e
    show s.asks.set i a = []
    rw [this]
    rfl
end Go.Proofs.YtdiljpdohmeceaaGreat.co
