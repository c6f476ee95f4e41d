/- MERGED: CoA CoP ChA WireB WrB WrA Q4B WrC -/
import Derived.Test.YtdiljpdohmeceaaGreatBase
import Derived.Test.YtdiljpdohmeceaaGreatBasr
import Derived.Deep.Cut
/- place.Hash, place.Shard (some number), coord.isGroup of a group, slices.Clone of numbers. -/
namespace Go.Proofs.YtdiljpdohmeceaaGreat.co
open Go.RowKit H O opk frame

def SomeU (v : Value) : Prop := ∃ t : Int, v = .int .u64 t
theorem SomeU.mk (t : Int) : SomeU (.int .u64 t) := ⟨t, rfl⟩

set_option maxHeartbeats 4000000 in
set_option maxRecDepth 100000 in
theorem hash_any (key : ByteArray) (w : World) (hz : key.size ≤ 140737488351232) : Calls Tryz.prog 109 #[.string key] w fun e w' => ∃ x : Int, e = .returned (.int .u64 x) ∧ Kp [] w w' := by
  obtain ⟨m, hkm⟩ : ∃ m, key.size = m := ⟨_, rfl⟩
  have hcv := Lib.run_convert_string_bytes (P := Tryz.prog) w 9 24 5 key Tryz.underlying9 Tryz.underlying24 Tryz.underlying5
  rw [hkm] at hcv hz
  have hrk := rds_bytes (S := []) w 5 key (by simp)
  have HK := As.mk (kp_bytes (Kp.refl [] w) 5 key)
  obtain ⟨w1, hw1⟩ : ∃ w1, Lib.bytesWorld w 5 key = w1 := ⟨_, rfl⟩
  rw [hw1] at hrk HK hcv
  have HR := As.mk hrk
  have HM := As.mk (show (kb key).length = m by rw [kb_len, hkm])
  clear hrk hw1 hkm
  go_enter Tryz.func109, Tryz.ntmps109
  go_wp2
  go_loopw [3, 9] (fun h i wr => SomeU h ∧ ∃ k : Nat, i = .int .i64 (k : Int) ∧ k ≤ m ∧ wr = w1) (fun _ i _ => m - (intOf i).toNat)
  case atStart => exact ⟨SomeU.mk _, 0, rfl, by omega, rfl⟩
  case round =>
    obtain ⟨⟨h, rfl⟩, k, rfl, hk, rfl⟩ := hrel
    by_cases hlt : k < m
    · obtain ⟨a, ha, d0⟩ := HR.out.rd.int k (by rw [HM.out]; exact hlt)
      cases ha
      rw [Addr.add_lit, Nat.zero_add] at d0
      have i0 : (0 : Int) ≤ (k : Int) := by omega
      have i1 : (k : Int) < (m : Int) := by omega
      go_wp2
      go_roundw
      case rel => exact ⟨SomeU.mk _, k + 1, by go_num, by omega, by first | rfl | trivial⟩
      case measure => simp [intOf]; omega
    · go_wp2
      go_ret
      exact ⟨_, rfl, HK.out⟩

theorem shard_any (key : ByteArray) (n : Int) (w : World) (hz : key.size ≤ 140737488351232) (hn : n = 2) : Calls Tryz.prog 75 #[.string key, .int .i64 n] w fun e w' => ∃ x : Int, e = .returned (.tuple #[.int .i64 x, .int .i64 0]) ∧ Kp [] w w' := by
  subst hn
  have HM : As (∀ wX, Calls Tryz.prog 108 #[.int .i64 2] wX fun e w' => e = .returned (.bool true) ∧ Kp [] wX w') := ⟨fun wX => by
    go_enter Tryz.func108, Tryz.ntmps108
    go_wp2
    go_ret
    exact ⟨rfl, Kp.refl _ _⟩⟩
  have HH := As.mk (fun wX => hash_any key wX hz)
  clear hz
  go_enter Tryz.func75, Tryz.ntmps75
  go_wp2_with (first
    | (go_at_call 108; refine (HM.out _).mono ?_; rintro e w1 ⟨rfl, k1⟩; have HK1 := As.mk k1; clear k1 HM)
    | (go_at_call 109; refine (HH.out w1).mono ?_; rintro e w2 ⟨x, rfl, k2⟩; have HK2 : As (Kp [] w w2) := ⟨HK1.out.trans k2 (by simp)⟩; clear k2 HH))
  go_ret2
  exact ⟨_, rfl, HK2.out⟩
theorem int_at {w : World} {A : Option Addr} {xs : List Int} (h : Rd w A (iv .i64 xs)) (i : Nat) (hi : i < xs.length) : ∃ b o, A = some ⟨b, o, none⟩ ∧ w.cell? ⟨b, o + i, none⟩ = some (.int .i64 xs[i]) := by
  obtain ⟨a, ha, c0⟩ := h.int i hi
  obtain ⟨z, hz, cz⟩ := h.int 0 (by omega)
  rw [ha] at hz
  cases hz
  obtain ⟨b, o, s⟩ := a
  obtain rfl : s = none := by simpa [Addr.add] using World.cell?_spot cz
  rw [Go.WideShapes.add_plain] at c0
  exact ⟨b, o, ha, c0⟩
/-- a group -/
def Grp (xs : List Int) : Prop := (1 ≤ xs.length ∧ xs.length ≤ 7) ∧ ∀ i (h : i < xs.length), (0 ≤ xs[i] ∧ xs[i] < 7) ∧ (∀ h0 : 0 < i, xs[i - 1]'(by omega) < xs[i])
set_option maxHeartbeats 4000000 in
set_option maxRecDepth 100000 in
theorem group_good (A : Option Addr) (n c : Nat) (xs : List Int) (w : World) (hn : xs.length = n) (hr : Rd w A (iv .i64 xs)) (hg : Grp xs) : Calls Tryz.prog 71 #[.slice A n c] w fun e w' => e = .returned (.bool true) ∧ Kp [] w w' := by
  obtain ⟨⟨h1, h7⟩, hG⟩ := hg
  rw [hn] at h1 h7
  have HR := As.mk hr
  have HN := As.mk hn
  have HG := As.mk hG
  clear hr hn hG
  go_enter Tryz.func71, Tryz.ntmps71
  go_wp2
  go_loopw [7] (fun i wr => ∃ k : Nat, i = .int .i64 (k : Int) ∧ k ≤ n ∧ As (Kp [] w wr)) (fun i _ => n - (intOf i).toNat)
  case atStart => exact ⟨0, rfl, by omega, ⟨Kp.refl _ _⟩⟩
  case round =>
    obtain ⟨k, rfl, hk, HK⟩ := hrel
    by_cases hlt : k < n
    · have hk' : k < xs.length := by rw [HN.out]; exact hlt
      obtain ⟨⟨g0, g1⟩, g2⟩ := HG.out k hk'
      obtain ⟨b, o, rfl, d0⟩ := int_at ((HK.out.rd_new HR.out (by simp))) k hk'
      obtain ⟨y, hy⟩ : ∃ y, xs[k] = y := ⟨_, rfl⟩
      rw [hy] at g0 g1 d0
      have i0 : (0 : Int) ≤ (k : Int) := by omega
      have i1 : (k : Int) < (n : Int) := by omega
      by_cases hk0 : k = 0
      · subst hk0
        rw [Nat.add_zero] at d0
        clear g2 hy
        go_wp2
        go_roundw
        case rel => exact ⟨1, by go_num, by omega, HK⟩
        case measure => simp [intOf]; omega
      · have g3 := g2 (by omega)
        obtain ⟨_, _, e, d1⟩ := int_at ((HK.out.rd_new HR.out (by simp))) (k - 1) (by omega)
        cases e
        obtain ⟨z, hz⟩ : ∃ z, xs[k - 1] = z := ⟨_, rfl⟩
        rw [hy] at g3
        rw [hz] at g3 d1
        have i2 : (0 : Int) < (k : Int) := by omega
        have i3 : IntKind.i64.wrap ((k : Int) - 1) = ((k - 1 : Nat) : Int) := by rw [IntKind.wrap_i64]; omega
        have i4 : ((k - 1 : Nat) : Int) < (n : Int) := by omega
        have i5 : ¬ y ≤ z := by omega
        clear g2 hy hz
        go_wp2
        go_roundw
        case rel => exact ⟨k + 1, by go_num, by omega, HK⟩
        case measure => simp [intOf]; omega
    · have i6 : (n : Int) ≤ 7 := by omega
      go_wp2
      go_ret
      exact ⟨rfl, HK.out⟩
end Go.Proofs.YtdiljpdohmeceaaGreat.co

/- coord: plain words: jobs, asks, what a Tick does, what a message does. No program in sight. -/
namespace Go.Proofs.YtdiljpdohmeceaaGreat.co
open Go.RowKit H O opk frame wir

/-- a message -/
structure Msg where
  frm : Int
  dst : Int
  data : List Int
/-- how a job ended -/
structure Res where
  job : Nat
  err : Int
  was : Bool
  has : Bool
  text : List Int
  ms : List (ByteArray × Int)
/-- a job: 1 a Put, 2 a Delete, 3 a Get, 4 a Find -/
structure Job where
  kind : Nat
  key : ByteArray
  text : List Int
/-- what one shard is asked -/
structure Ask where
  shard : Nat
  ctx : Nat
  frame : List Int
  tried : Nat
  waited : Nat
  hinted : Bool
  answered : Bool
  ms : List (ByteArray × Int)
structure Cfg where
  id : Nat
  pat : Nat
  tries : Nat
  shards : List (List Int)
structure Cs where
  whom : List Nat
  jobs : List Job
  ended : Nat
  ctx : Nat
  asks : List Ask
  done : List Res

/-- a key's digest -/
def hashStep (h c : Int) : Int := IntKind.u64.wrap (bits .xor .u64 h c * 1099511628211)
def hashL (l : List Int) : Int := l.foldl hashStep 14695981039346656037
theorem hashL_nil : hashL [] = 14695981039346656037 := rfl
theorem hashL_snoc (l : List Int) (c : Int) : hashL (l ++ [c]) = hashStep (hashL l) c := by simp [hashL]
theorem hashL_step (l : List Int) (k : Nat) (h : k < l.length) : hashL (l.take (k + 1)) = hashStep (hashL (l.take k)) l[k] := by
  rw [take_succ' l k h, hashL_snoc]
theorem hashStep_pos (h c : Int) : 0 ≤ hashStep h c ∧ hashStep h c < 18446744073709551616 := by
  unfold hashStep
  rw [IntKind.wrap_u64]
  omega
theorem hashL_pos (l : List Int) : 0 ≤ hashL l ∧ hashL l < 18446744073709551616 := by
  rcases List.eq_nil_or_concat l with rfl | ⟨l', c, rfl⟩
  · rw [hashL_nil]; omega
  · rw [List.concat_eq_append, hashL_snoc]; exact hashStep_pos _ _
/-- a key's shard among n -/
def shardOf (key : List Int) (n : Nat) : Nat := (hashL key % (n : Int)).toNat
theorem shardOf_lt (key : List Int) {n : Nat} (h : 0 < n) : shardOf key n < n := by
  unfold shardOf
  have := Int.emod_lt_of_pos (hashL key) (show (0 : Int) < n by omega)
  have := Int.emod_nonneg (hashL key) (show (n : Int) ≠ 0 by omega)
  omega

/-- the wire's kind of a job's requests -/
def wkind (j : Job) : Int := if j.kind = 1 then 1 else if j.kind = 2 then 1 else if j.kind = 3 then 3 else 2
/-- what a job's requests have -/
def jdata (cf : Cfg) (num : Nat) (j : Job) : List Int :=
  if j.kind = 1 then opBytes 1 cf.id ((num : Int) + 1) j.key j.text else if j.kind = 2 then opBytes 2 cf.id ((num : Int) + 1) j.key [] else if j.kind = 3 then kb j.key else j.text
def frameOf (cf : Cfg) (num : Nat) (j : Job) (ctx shard : Nat) : List Int := fEnc (pay 113 [wkind j, (ctx : Int), (shard : Int)] (jdata cf num j))
/-- the shards that a job asks -/
def jshards (cf : Cfg) (j : Job) : List Nat := if j.kind = 4 then List.range cf.shards.length else [shardOf (kb j.key) cf.shards.length]
def newAsk (cf : Cfg) (num : Nat) (j : Job) (t ctx shard : Nat) : Ask := ⟨shard, ctx, frameOf cf num j ctx shard, t, 0, false, false, []⟩
def mkAsks (cf : Cfg) (num : Nat) (j : Job) (t : Nat) : Nat → List Nat → List Ask
  | _, [] => []
  | ctx, s :: l => newAsk cf num j t (ctx + 1) s :: mkAsks cf num j t (ctx + 1) l
theorem mkAsks_len (cf : Cfg) (num : Nat) (j : Job) (t ctx : Nat) (l : List Nat) : (mkAsks cf num j t ctx l).length = l.length := by
  induction l generalizing ctx with
  | nil => rfl
  | cons s l ih => simp [mkAsks, ih]
theorem mkAsks_snoc (cf : Cfg) (num : Nat) (j : Job) (t ctx : Nat) (l : List Nat) (s : Nat) : mkAsks cf num j t ctx (l ++ [s]) = mkAsks cf num j t ctx l ++ [newAsk cf num j t (ctx + l.length + 1) s] := by
  induction l generalizing ctx with
  | nil => rfl
  | cons x l ih =>
    simp only [List.cons_append, mkAsks, ih, List.length_cons]
    rw [show ctx + 1 + l.length + 1 = ctx + (l.length + 1) + 1 by omega]
theorem mkAsks_get (cf : Cfg) (num : Nat) (j : Job) (t : Nat) : ∀ (ctx : Nat) (l : List Nat) (i : Nat) (h : i < l.length), (mkAsks cf num j t ctx l)[i]? = some (newAsk cf num j t (ctx + i + 1) l[i])
  | ctx, s :: l, 0, _ => rfl
  | ctx, s :: l, i + 1, h => by
    simp only [mkAsks, List.getElem?_cons_succ, List.getElem_cons_succ]
    rw [mkAsks_get cf num j t (ctx + 1) l i (by simpa using h), show ctx + 1 + i + 1 = ctx + (i + 1) + 1 by omega]

/-- whom a shard's ask goes to -/
def dest (cf : Cfg) (whom : List Nat) (s : Nat) : Int := (cf.shards.getD s []).getD (whom.getD s 0) 0
def msgOf (cf : Cfg) (whom : List Nat) (a : Ask) : Msg := ⟨cf.id, dest cf whom a.shard, a.frame⟩
/-- the next one of a shard -/
def nextW (cf : Cfg) (whom : List Nat) (s : Nat) : List Nat := whom.set s ((whom.getD s 0 + 1) % (cf.shards.getD s []).length)

/-- a job ends -/
def endJob (s : Cs) (r : Res) : Cs := { s with jobs := s.jobs.tail, ended := s.ended + 1, asks := [], done := s.done ++ [r] }
def endErr (s : Cs) (e : Int) : Cs := endJob s ⟨s.ended, e, false, false, [], []⟩

/-- a Tick at the asks from k on: whom to ask, the asks, what is sent; has the job's time run out? -/
def tkGo (cf : Cfg) : Nat → Nat → List Nat → List Ask → List Msg → List Nat × List Ask × List Msg × Bool
  | 0, _, wh, az, out => (wh, az, out, false)
  | f + 1, k, wh, az, out =>
    match az[k]? with
    | none => (wh, az, out, false)
    | some a =>
      if a.answered = true then tkGo cf f (k + 1) wh az out
      else if a.waited + 1 < cf.pat then tkGo cf f (k + 1) wh (az.set k { a with waited := a.waited + 1 }) out
      else if cf.tries ≤ a.tried then (wh, az.set k { a with waited := a.waited + 1 }, out, true)
      else tkGo cf f (k + 1) (nextW cf wh a.shard) (az.set k { a with waited := 0, tried := a.tried + 1, hinted := false }) (out ++ [msgOf cf (nextW cf wh a.shard) a])
def tick (cf : Cfg) (s : Cs) : Cs × List Msg :=
  match s.jobs with
  | [] => (s, [])
  | j :: _ =>
    if s.asks = [] then
      ({ s with asks := mkAsks cf s.ended j 1 s.ctx (jshards cf j), ctx := s.ctx + (jshards cf j).length }, (mkAsks cf s.ended j 1 s.ctx (jshards cf j)).map (msgOf cf s.whom))
    else
      match tkGo cf s.asks.length 0 s.whom s.asks [] with
      | (wh, az, out, true) => (endErr { s with whom := wh, asks := az } 14, out)
      | (wh, az, out, false) => ({ s with whom := wh, asks := az }, out)

/-- a new job -/
def gives (s : Cs) (j : Job) : Cs := { s with jobs := s.jobs ++ [j] }
def isKey (key : ByteArray) : Bool := decide (1 ≤ key.size ∧ key.size ≤ 64)
/-- the number that the next job gets -/
def nextJ (s : Cs) : Nat := s.ended + s.jobs.length

/-! What may be. -/
structure JobOk (j : Job) : Prop where
  kind : 1 ≤ j.kind ∧ j.kind ≤ 4
  key : j.kind ≠ 4 → 1 ≤ j.key.size ∧ j.key.size ≤ 64
  text : j.text.length ≤ 4096 ∧ Wf j.text
structure CfgOk (cf : Cfg) : Prop where
  id : 7 ≤ cf.id ∧ cf.id ≤ 255
  pat : 1 ≤ cf.pat ∧ cf.pat ≤ 1000
  tries : 1 ≤ cf.tries ∧ cf.tries ≤ 1000
  len : 1 ≤ cf.shards.length ∧ cf.shards.length ≤ 8
  grp : ∀ x ∈ cf.shards, Grp x
structure AskOk (cf : Cfg) (ctx : Nat) (a : Ask) : Prop where
  shard : a.shard < cf.shards.length
  ctx : 1 ≤ a.ctx ∧ a.ctx ≤ ctx
  frame : a.frame.length ≤ 10000 ∧ Wf a.frame
  tried : a.tried ≤ cf.tries
  waited : a.waited ≤ 1001
structure CsOk (cf : Cfg) (s : Cs) : Prop where
  cfg : CfgOk cf
  wlen : s.whom.length = cf.shards.length
  whom : ∀ i (h : i < s.whom.length) (h2 : i < cf.shards.length), s.whom[i] < cf.shards[i].length
  jobs : ∀ j ∈ s.jobs, JobOk j
  asks : ∀ a ∈ s.asks, AskOk cf s.ctx a
  none : s.jobs = [] → s.asks = []
  few : s.asks.length ≤ 8
theorem CsOk.ask {cf : Cfg} {s : Cs} (h : CsOk cf s) (i : Nat) {a : Ask} (ha : AskOk cf s.ctx a) : CsOk cf { s with asks := s.asks.set i a } := by
  refine ⟨h.cfg, h.wlen, h.whom, h.jobs, fun x hx => ?_, fun e => ?_, by show (s.asks.set i a).length ≤ 8; rw [List.length_set]; exact h.few⟩
  · rcases List.mem_or_eq_of_mem_set hx with e | e
    · exact h.asks x e
    · rw [e]; exact ha
  · have := h.none e
    show s.asks.set i a = []
    rw [this]
    rfl
end Go.Proofs.YtdiljpdohmeceaaGreat.co

/- coord: plain words: what a message does. No program in sight. -/
namespace Go.Proofs.YtdiljpdohmeceaaGreat.co
open Go.RowKit H O opk frame wir

/-- three numbers and bytes behind a mark in a record: (numbers, bytes, error) -/
def rd3 (mark : Int) (most : Nat) (xs : List Int) : List Int × List Int × Int :=
  if (fOne xs).2 ≠ 0 then ([], [], (fOne xs).2)
  else if (stRaw 1 (some (fOne xs).1)).1 ≠ [mark] then ([], [], 3)
  else if (stBytes (stNums 3 (stRaw 1 (some (fOne xs).1)).2).2).2 = some [] ∧ (stBytes (stNums 3 (stRaw 1 (some (fOne xs).1)).2).2).1.length ≤ most then
    ((stNums 3 (stRaw 1 (some (fOne xs).1)).2).1, (stBytes (stNums 3 (stRaw 1 (some (fOne xs).1)).2).2).1, 0)
  else ([], [], 3)
/-- a reply of the wire's -/
structure WRep where
  ctx : Int
  err : Int
  hint : Int
  data : List Int
def wrOk (ctx err hint : Int) : Bool := decide (0 ≤ ctx ∧ ctx ≤ 1099511627776) && decide (0 ≤ err ∧ err ≤ 100) && decide (-1 ≤ hint ∧ hint ≤ 255)
/-- the reply that a record is; an error -/
def dWRep (xs : List Int) : WRep × Int :=
  if (rd3 114 524288 xs).2.2 ≠ 0 then (⟨0, 0, 0, []⟩, (rd3 114 524288 xs).2.2)
  else if wrOk ((rd3 114 524288 xs).1.getD 0 0) ((rd3 114 524288 xs).1.getD 1 0) ((rd3 114 524288 xs).1.getD 2 0 - 1) = true then
    (⟨(rd3 114 524288 xs).1.getD 0 0, (rd3 114 524288 xs).1.getD 1 0, (rd3 114 524288 xs).1.getD 2 0 - 1, (rd3 114 524288 xs).2.1⟩, 0)
  else (⟨0, 0, 0, []⟩, 3)

/-- a place is not behind another one -/
def mLe (a b : ByteArray × Int) : Bool := decide (kb a.1 < kb b.1) || (decide (kb a.1 = kb b.1) && decide (a.2 ≤ b.2))
/-- places in order -/
def sortM (l : List (ByteArray × Int)) : List (ByteArray × Int) := l.mergeSort mLe

/-- what an answer brings: (was, has, text, places, error) -/
structure Took where
  was : Bool
  has : Bool
  text : List Int
  ms : List (ByteArray × Int)
  err : Int
def tookW (del : Bool) (data : List Int) : Took :=
  if (dRep data).2.2 ≠ 0 then ⟨false, false, [], [], 3⟩
  else if (dRep data).1 = 7 then ⟨false, false, [], [], 0⟩
  else if (dRep data).1 = 0 then ⟨del || decide ((dRep data).2.1.head? = some 1), false, [], [], 0⟩
  else ⟨false, false, [], [], (dRep data).1⟩
def tookG (data : List Int) : Took :=
  if (stNum (some data)).1 = 1 then
    (if (stBytes (stNum (some data)).2).2 = some [] then ⟨false, true, (stBytes (stNum (some data)).2).1, [], 0⟩ else ⟨false, false, [], [], 3⟩)
  else if (stNum (some data)).1 = 0 ∧ (stNum (some data)).2 = some [] then ⟨false, false, [], [], 0⟩
  else ⟨false, false, [], [], 3⟩
def tookF (data : List Int) : Took := if (dMs data).2 = 0 then ⟨false, false, [], (dMs data).1, 0⟩ else ⟨false, false, [], [], 3⟩
def took (j : Job) (data : List Int) : Took := if j.kind = 1 then tookW false data else if j.kind = 2 then tookW true data else if j.kind = 3 then tookG data else tookF data

/-- the ask that is meant -/
def askIx (az : List Ask) (ctx : Int) : Option Nat := az.findIdx? fun a => !a.answered && decide ((a.ctx : Int) = ctx)
/-- where a node stands in a shard -/
def nodeIx (cf : Cfg) (sh : Nat) (n : Int) : Option Nat := (cf.shards.getD sh []).findIdx? fun x => decide (x = n)
/-- a message is heard -/
def hear (cf : Cfg) (s : Cs) (m : Msg) : Cs × List Msg :=
  if m.dst ≠ (cf.id : Int) ∨ m.frm < 0 ∨ 7 ≤ m.frm then (s, [])
  else match s.jobs with
  | [] => (s, [])
  | j :: _ =>
    if (dWRep m.data).2 ≠ 0 then (s, [])
    else match askIx s.asks (dWRep m.data).1.ctx with
    | none => (s, [])
    | some i => match s.asks[i]? with
      | none => (s, [])
      | some a =>
        if (dWRep m.data).1.err = 0 then
          (if (took j (dWRep m.data).1.data).err ≠ 0 then (endErr s (took j (dWRep m.data).1.data).err, [])
           else if (s.asks.set i { a with answered := true, ms := (took j (dWRep m.data).1.data).ms }).all (·.answered) = true then
             (endJob s ⟨s.ended, 0, (took j (dWRep m.data).1.data).was, (took j (dWRep m.data).1.data).has, (took j (dWRep m.data).1.data).text, sortM ((s.asks.set i { a with answered := true, ms := (took j (dWRep m.data).1.data).ms }).flatMap (·.ms))⟩, [])
           else ({ s with asks := s.asks.set i { a with answered := true, ms := (took j (dWRep m.data).1.data).ms } }, []))
        else if (dWRep m.data).1.err = 11 then
          match nodeIx cf a.shard (dWRep m.data).1.hint with
          | none => (s, [])
          | some at_ =>
            if (dWRep m.data).1.hint = m.frm ∨ a.hinted = true then (s, [])
            else ({ s with whom := s.whom.set a.shard at_, asks := s.asks.set i { a with hinted := true, waited := 0 } }, [msgOf cf (s.whom.set a.shard at_) a])
        else if (dWRep m.data).1.err = 12 ∨ (dWRep m.data).1.err = 14 ∨ (dWRep m.data).1.err = 9 ∨ (dWRep m.data).1.err = 7 then (s, [])
        else (endErr s (dWRep m.data).1.err, [])
end Go.Proofs.YtdiljpdohmeceaaGreat.co

/- wire.read, wire.Decode, wire.DecodeReply where they refuse. -/
namespace Go.Proofs.YtdiljpdohmeceaaGreat.wir
open Go.RowKit H O opk frame

set_option maxHeartbeats 4000000 in
set_option maxRecDepth 100000 in
/-- bytes that are no record -/
theorem read_err (A : Option Addr) (n c : Nat) (xs : List Int) (mark most : Int) (T : Value) (er : Int) (w : World) (hn : xs.length = n) (hr : Rd w A (iv .u8 xs)) (hc : n ≤ c) (hw : Wf xs) (hm : n ≤ 140737488351232) (he : (fOne xs).2 = er) (h0 : er ≠ 0) :
    Calls Tryz.prog 83 #[.slice A n c, .int .u8 mark, .int .i64 most, T] w fun e w' => e = .returned (.tuple #[.slice none 0 0, .int .i64 er]) ∧ Kp [] w w' := by
  have H1 : As (Calls Tryz.prog 113 #[.slice A n c] w fun e w' => ∃ A1 n1 c1, e = .returned (.tuple #[.slice A1 n1 c1, .int .i64 er]) ∧ Kp [] w w') := ⟨by
    refine (one_any A n c xs w hn hr hc hw hm).mono ?_
    rintro e w' ⟨v, rfl, o, k⟩
    obtain ⟨A1, c1, rfl, _⟩ := own_rd o.1
    rw [he]
    exact ⟨A1, _, c1, rfl, k⟩⟩
  have bne : (er == 0) = false := by simpa using h0
  clear hn hr hc hw hm he h0
  go_enter Tryz.func83, Tryz.ntmps83
  go_wp2_with (go_at_call 113; refine H1.out.mono ?_; rintro e w1 ⟨A1, n1, c1, rfl, k1⟩; have HK1 := As.mk k1; clear k1 H1)
  go_ret2
  exact ⟨rfl, HK1.out⟩

set_option maxHeartbeats 4000000 in
set_option maxRecDepth 100000 in
/-- another one's record -/
theorem read_mark (A : Option Addr) (n c : Nat) (xs : List Int) (mark most : Int) (T : Value) (mk : Int) (r : List Int) (w : World) (hn : xs.length = n) (hr : Rd w A (iv .u8 xs)) (hc : n ≤ c) (hw : Wf xs) (hm : n ≤ 140737488351232) (he : fOne xs = (mk :: r, 0)) (hp : Wf (mk :: r)) (hl : (mk :: r).length ≤ 1100000) (h0 : mk ≠ mark) :
    Calls Tryz.prog 83 #[.slice A n c, .int .u8 mark, .int .i64 most, T] w fun e w' => e = .returned (.tuple #[.slice none 0 0, .int .i64 3]) ∧ Kp [] w w' := by
  obtain ⟨N, hN⟩ : ∃ N, (mk :: r).length = N := ⟨_, rfl⟩
  rw [hN] at hl
  have H1 : As (Calls Tryz.prog 113 #[.slice A n c] w fun e w' => ∃ A1 c1, e = .returned (.tuple #[.slice A1 N c1, .int .i64 0]) ∧ Rd w' A1 (iv .u8 (mk :: r)) ∧ (A1 = none → c1 = 0) ∧ Kp [] w w') := ⟨by
    refine (one_any A n c xs w hn hr hc hw hm).mono ?_
    rintro e w' ⟨v, rfl, o, k⟩
    rw [he] at o ⊢
    obtain ⟨A1, c1, rfl, _, _, r1, n1⟩ := own_rd o.1
    rw [hN]
    exact ⟨A1, c1, rfl, r1, n1, k⟩⟩
  have H2 : As (∀ wX A1 c1, Rd wX A1 (iv .u8 (mk :: r)) → (A1 = none → c1 = 0) → Calls Tryz.prog 86 #[.slice A1 N c1] wX (reader.NewRdr (mk :: r) wX)) := ⟨fun wX A1 c1 r1 n1 => reader.new_any A1 N c1 (mk :: r) wX hN r1 n1 (by omega) hp⟩
  have H3 : As (∀ wX b g, reader.Rdr wX b g (some (mk :: r)) → Calls Tryz.prog 114 #[.pointer (some ⟨b, 0, none⟩), .int .i64 1] wX fun e w' => ∃ gv c1, e = .returned (.slice (some ⟨gv, 0, none⟩) 1 c1) ∧ w'.cell? ⟨gv, 0, none⟩ = some (.int .u8 mk) ∧ Kp [b] wX w') := ⟨fun wX b g h => by
    have hst : O.stRaw 1 (some (mk :: r)) = ([mk], some r) := by
      rw [O.stRaw]
      rw [if_neg (by simp only [List.length_cons]; omega)]
      rfl
    have := reader.raw_any b g (some (mk :: r)) 1 wX h (by simp only [left, Option.getD_some]; omega)
    rw [hst] at this
    refine this.mono ?_
    rintro e w' ⟨v, rfl, o, g', _, _, k⟩
    obtain ⟨gv, cp, rfl, _⟩ := own_form o.1 (by simp)
    refine ⟨gv, cp, rfl, ?_, k⟩
    have := o.1.cellAt 0 (by simp)
    rw [show (iv .u8 [mk])[0]? = some (.int .u8 mk) from rfl] at this
    simpa using this⟩
  have bmk : (mk == mark) = false := by simpa using h0
  clear hN hn hr hc hw hm he hp h0
  go_enter Tryz.func83, Tryz.ntmps83
  go_wp2_with (first
    | (go_at_call 113; refine H1.out.mono ?_; rintro e w1 ⟨A1, c1, rfl, r1, n1, k1⟩; have HK1 := As.mk k1; have HN1 := As.mk (H2.out w1 A1 c1 r1 n1); clear k1 r1 n1 H1 H2)
    | (go_at_call 86; refine HN1.out.mono ?_; rintro e w2 ⟨b, g, rfl, R, hb, _, k2⟩; have HB := As.mk (Nat.le_trans HK1.out.size hb); have HK2 : As (Kp [] w w2) := ⟨HK1.out.trans k2 (by simp)⟩; have HRA := As.mk (H3.out w2 b g R); clear R hb k2 HN1 H3)
    | (go_at_call 114; refine HRA.out.mono ?_; rintro e w3 ⟨gv, c3, rfl, d3, k3⟩; have HK3 : As (Kp [] w w3) := ⟨HK2.out.trans k3 (by intro x hx; simp at hx; subst hx; exact .inr HB.out)⟩; clear k3 HRA))
  go_ret2
  exact ⟨rfl, HK3.out⟩
end Go.Proofs.YtdiljpdohmeceaaGreat.wir

/- wire.read in full: numbers into three places, and bytes. -/
namespace Go.Proofs.YtdiljpdohmeceaaGreat.wir
open Go.RowKit H O opk frame co reader

theorem putAll_congr {w v : World} (N : Nat) (h : ∀ k, k < N → w.heap[k]? = v.heap[k]?) : ∀ (l : List (Option Addr × Int)) (k : Nat), k < N → (putAll w l).heap[k]? = (putAll v l).heap[k]? := by
  intro l
  induction l generalizing w v with
  | nil => exact h
  | cons x l ih =>
    intro k hk
    rw [putAll, putAll]
    refine ih (fun j hj => ?_) k hk
    cases x.1 with
    | none => exact h j hj
    | some a => simp only [put1, World.setCell, Array.getElem?_modify, h j hj]
theorem stNum_bd (s : Option (List Int)) : (stNum s).1 ≤ 4611686018427387904 := by
  cases h : dec (left s) with
  | none => rw [stNum_none h]; exact Nat.zero_le _
  | some p =>
    obtain ⟨v, r⟩ := p
    rw [stNum_some h]
    exact dec_bd h
theorem stNums_bd : ∀ (k : Nat) (s : Option (List Int)), ∀ x ∈ (stNums k s).1, 0 ≤ x ∧ x ≤ 4611686018427387904
  | 0, s, x, hx => by simp [stNums] at hx
  | k + 1, s, x, hx => by
    simp only [stNums, List.mem_cons] at hx
    rcases hx with rfl | hx
    · have := stNum_bd s
      omega
    · exact stNums_bd k _ x hx
/-- behind wire.read: what comes; the places -/
def RdP (r : List Int × List Int × Int) (ps : List (Option Addr)) (w : World) (e : Ending) (w' : World) : Prop :=
  ∃ D vs, e = .returned (.tuple #[D, .int .i64 r.2.2]) ∧ Own 5 .u8 w' w.heap.size D r.2.1 ∧ vs.length ≤ 3 ∧ (∀ x ∈ vs, 0 ≤ x ∧ x ≤ 4611686018427387904) ∧ (r.2.2 = 0 → vs = r.1) ∧ w'.os = w.os ∧ w'.tape = w.tape ∧ w'.output = w.output ∧ w.heap.size ≤ w'.heap.size ∧
    ∀ k, k < w.heap.size → w'.heap[k]? = (putAll w (ps.zip vs)).heap[k]?
theorem RdP.kp0 {er : Int} {ps : List (Option Addr)} {w w' : World} (h0 : er ≠ 0) (k : Kp [] w w') : RdP ([], [], er) ps w (.returned (.tuple #[.slice none 0 0, .int .i64 er])) w' :=
  ⟨_, [], rfl, Own.nil _ _ _ _, by simp, by simp, fun e => absurd e h0, k.os, k.tape, k.output, k.size, fun j hj => by rw [List.zip_nil_right]; exact k.block j hj (by simp)⟩

set_option maxHeartbeats 4000000 in
set_option maxRecDepth 100000 in
/-- a record of nothing -/
theorem read_empty (A : Option Addr) (n c : Nat) (xs : List Int) (mark most : Int) (T : Value) (w : World) (hn : xs.length = n) (hr : Rd w A (iv .u8 xs)) (hc : n ≤ c) (hw : Wf xs) (hm : n ≤ 140737488351232) (he : fOne xs = ([], 0)) :
    Calls Tryz.prog 83 #[.slice A n c, .int .u8 mark, .int .i64 most, T] w fun e w' => e = .returned (.tuple #[.slice none 0 0, .int .i64 3]) ∧ Kp [] w w' := by
  have H1 : As (Calls Tryz.prog 113 #[.slice A n c] w fun e w' => ∃ A1 c1, e = .returned (.tuple #[.slice A1 0 c1, .int .i64 0]) ∧ (A1 = none → c1 = 0) ∧ Kp [] w w') := ⟨by
    refine (one_any A n c xs w hn hr hc hw hm).mono ?_
    rintro e w' ⟨v, rfl, o, k⟩
    rw [he] at o ⊢
    obtain ⟨A1, c1, rfl, _, _, r1, n1⟩ := own_rd o.1
    exact ⟨A1, c1, rfl, n1, k⟩⟩
  have H2 : As (∀ wX A1 c1, (A1 = none → c1 = 0) → Calls Tryz.prog 86 #[.slice A1 0 c1] wX (reader.NewRdr [] wX)) := ⟨fun wX A1 c1 n1 => reader.new_any A1 0 c1 [] wX rfl (Rd.nil _ _) n1 (by omega) Wf.nil⟩
  have H3 : As (∀ wX b g, reader.Rdr wX b g (some []) → Calls Tryz.prog 114 #[.pointer (some ⟨b, 0, none⟩), .int .i64 1] wX fun e w' => ∃ A1 c1, e = .returned (.slice A1 0 c1) ∧ Kp [b] wX w') := ⟨fun wX b g h => by
    have hst : O.stRaw 1 (some []) = ([], none) := rfl
    have := reader.raw_any b g (some []) 1 wX h (by simp [left])
    rw [hst] at this
    refine this.mono ?_
    rintro e w' ⟨v, rfl, o, g', _, _, k⟩
    obtain ⟨A1, c1, rfl, _⟩ := own_rd o.1
    exact ⟨A1, c1, rfl, k⟩⟩
  clear hn hr hc hw hm he
  go_enter Tryz.func83, Tryz.ntmps83
  go_wp2_with (first
    | (go_at_call 113; refine H1.out.mono ?_; rintro e w1 ⟨A1, c1, rfl, n1, k1⟩; have HK1 := As.mk k1; have HN1 := As.mk (H2.out w1 A1 c1 n1); clear k1 n1 H1 H2)
    | (go_at_call 86; refine HN1.out.mono ?_; rintro e w2 ⟨b, g, rfl, R, hb, _, k2⟩; have HB := As.mk (Nat.le_trans HK1.out.size hb); have HK2 : As (Kp [] w w2) := ⟨HK1.out.trans k2 (by simp)⟩; have HRA := As.mk (H3.out w2 b g R); clear R hb k2 HN1 H3)
    | (go_at_call 114; refine HRA.out.mono ?_; rintro e w3 ⟨A3, c3, rfl, k3⟩; have HK3 : As (Kp [] w w3) := ⟨HK2.out.trans k3 (by intro x hx; simp at hx; subst hx; exact .inr HB.out)⟩; clear k3 HRA))
  go_ret2
  exact ⟨rfl, HK3.out⟩

set_option maxHeartbeats 8000000 in
set_option maxRecDepth 100000 in
theorem read_good (A : Option Addr) (n c : Nat) (xs : List Int) (mark most : Int) (B : Nat) (ps : List (Option Addr)) (r : List Int) (w : World) (hn : xs.length = n) (hr : Rd w A (iv .u8 xs)) (hc : n ≤ c) (hw : Wf xs) (hm : n ≤ 140737488351232) (he : fOne xs = (mark :: r, 0)) (hp : Wf (mark :: r)) (hl : (mark :: r).length ≤ 1100000)
    (hps : ps.length = 3) (hB : Rd w (some ⟨B, 0, none⟩) (ps.map Value.pointer)) (hq : ∀ p ∈ ps, ∀ q, p = some q → q.block ≠ B ∧ IsInt w q) :
    Calls Tryz.prog 83 #[.slice A n c, .int .u8 mark, .int .i64 most, .slice (some ⟨B, 0, none⟩) 3 3] w (RdP (if (stBytes (stNums 3 (some r)).2).2 = some [] ∧ ((stBytes (stNums 3 (some r)).2).1.length : Int) ≤ most then ((stNums 3 (some r)).1, (stBytes (stNums 3 (some r)).2).1, 0) else ([], [], 3)) ps w) := by
  obtain ⟨N, hN⟩ : ∃ N, (mark :: r).length = N := ⟨_, rfl⟩
  rw [hN] at hl
  have hrl : r.length ≤ 1100000 := by simp at hN; omega
  have hBl : B < w.heap.size := by
    obtain ⟨a, ha, hlt⟩ := hB.lt (by simp [hps])
    cases ha
    exact hlt
  obtain ⟨s1, hs1⟩ : ∃ s, (stNums 3 (some r)).2 = s := ⟨_, rfl⟩
  have hs1l : (left s1).length ≤ 1100000 := by rw [← hs1]; exact stNums_left (by simpa [left] using hrl)
  obtain ⟨dat, hdat⟩ : ∃ s, (stBytes s1).1 = s := ⟨_, rfl⟩
  obtain ⟨s2, hs2⟩ : ∃ s, (stBytes s1).2 = s := ⟨_, rfl⟩
  obtain ⟨vs, hvs⟩ : ∃ s, (stNums 3 (some r)).1 = s := ⟨_, rfl⟩
  have hvl : vs.length = 3 := by rw [← hvs]; exact stNums_len 3 _
  have HVB : As (∀ x ∈ vs, 0 ≤ x ∧ x ≤ 4611686018427387904) := ⟨by rw [← hvs]; exact stNums_bd 3 _⟩
  obtain ⟨DL, hDL⟩ : ∃ s, dat.length = s := ⟨_, rfl⟩
  obtain ⟨wh, hwh⟩ : ∃ s, whole s2 = s := ⟨_, rfl⟩
  rw [hs1, hdat, hs2, hvs]
  have H1 : As (Calls Tryz.prog 113 #[.slice A n c] w fun e w' => ∃ A1 c1, e = .returned (.tuple #[.slice A1 N c1, .int .i64 0]) ∧ Rd w' A1 (iv .u8 (mark :: r)) ∧ (A1 = none → c1 = 0) ∧ Kp [] w w') := ⟨by
    refine (one_any A n c xs w hn hr hc hw hm).mono ?_
    rintro e w' ⟨v, rfl, o, k⟩
    rw [he] at o ⊢
    obtain ⟨A1, c1, rfl, _, _, r1, n1⟩ := own_rd o.1
    rw [hN]
    exact ⟨A1, c1, rfl, r1, n1, k⟩⟩
  have H2 : As (∀ wX A1 c1, Rd wX A1 (iv .u8 (mark :: r)) → (A1 = none → c1 = 0) → Calls Tryz.prog 86 #[.slice A1 N c1] wX (reader.NewRdr (mark :: r) wX)) := ⟨fun wX A1 c1 r1 n1 => reader.new_any A1 N c1 (mark :: r) wX hN r1 n1 (by omega) hp⟩
  have H3 : As (∀ wX b g, reader.Rdr wX b g (some (mark :: r)) → Calls Tryz.prog 114 #[.pointer (some ⟨b, 0, none⟩), .int .i64 1] wX fun e w' => ∃ gv c1, e = .returned (.slice (some ⟨gv, 0, none⟩) 1 c1) ∧ w'.cell? ⟨gv, 0, none⟩ = some (.int .u8 mark) ∧ As (∃ g', Rdr w' b g' (some r) ∧ (g' = g ∨ g' = none)) ∧ Kp [b] wX w') := ⟨fun wX b g h => by
    have hst : O.stRaw 1 (some (mark :: r)) = ([mark], some r) := by
      rw [O.stRaw]
      rw [if_neg (by simp only [List.length_cons]; omega)]
      rfl
    have := reader.raw_any b g (some (mark :: r)) 1 wX h (by simp only [left, Option.getD_some]; omega)
    rw [hst] at this
    refine this.mono ?_
    rintro e w' ⟨v, rfl, o, g', R, G, k⟩
    obtain ⟨gv, cp, rfl, _⟩ := own_form o.1 (by simp)
    refine ⟨gv, cp, rfl, ?_, ⟨g', R, G⟩, k⟩
    have := o.1.cellAt 0 (by simp)
    rw [show (iv .u8 [mark])[0]? = some (.int .u8 mark) from rfl] at this
    simpa using this⟩
  have H4 : As (∀ wX b g, Kp [] w wX ∨ Kp [b] w wX → w.heap.size ≤ b → (∀ x, g = some x → w.heap.size ≤ x) → Rdr wX b g (some r) → Calls Tryz.prog 115 #[.pointer (some ⟨b, 0, none⟩), .slice (some ⟨B, 0, none⟩) 3 3] wX fun e w' => e = .returned (.tuple #[]) ∧ As ((∃ g', Rdr w' b g' s1) ∧ w'.os = wX.os ∧ w'.tape = wX.tape ∧ w'.output = wX.output ∧ wX.heap.size ≤ w'.heap.size ∧ ∀ k, k < wX.heap.size → k ≠ b → w'.heap[k]? = (putAll wX (ps.zip vs)).heap[k]?)) := ⟨fun wX b g k hb hg R => by
    have k : Kp [b] w wX := by
      rcases k with k | k
      · exact k.mono (by simp)
      · exact k
    have hblk : ∀ j, j < w.heap.size → wX.heap[j]? = w.heap[j]? := fun j hj => k.block j hj (by simp; omega)
    refine (reader.nums_any b g (some r) (some ⟨B, 0, none⟩) 3 3 ps wX R (by simpa [left] using (by omega : r.length ≤ 140737488351232)) hps (by omega) (k.rd hB (fun a ha => by cases ha; simp; omega)) (fun a ha => ?_) (fun p hp q hpq => ?_)).mono ?_
    · cases ha
      exact ⟨by show B ≠ b; omega, fun p hp q hpq => (hq p hp q hpq).1⟩
    · have h1 := (hq p hp q hpq).2
      have h2 := h1.lt
      refine ⟨by omega, fun e => by have := hg _ e; omega, isInt_of_block h1 (hblk _ h2)⟩
    · rintro e w' ⟨rfl, ⟨g', R', _⟩, p1, p2, p3, p4, p5⟩
      rw [hps] at R' p5
      rw [hs1] at R'
      rw [hvs] at p5
      exact ⟨rfl, ⟨⟨g', R'⟩, p1, p2, p3, p4, p5⟩⟩⟩
  have H5 : As (∀ wX b g, Rdr wX b g s1 → Calls Tryz.prog 88 #[.pointer (some ⟨b, 0, none⟩)] wX fun e w' => ∃ A5 c5, e = .returned (.slice A5 DL c5) ∧ As (Own 5 .u8 w' wX.heap.size (.slice A5 DL c5) dat ∧ (∃ g', Rdr w' b g' s2) ∧ Kp [b] wX w')) := ⟨fun wX b g R => by
    refine (reader.bytes_any b g s1 wX R (by omega)).mono ?_
    rintro e w' ⟨v, rfl, o, g', R', _, k⟩
    rw [hdat] at o
    rw [hs2] at R'
    obtain ⟨A5, c5, rfl, _⟩ := own_rd o.1
    rw [hDL] at o ⊢
    exact ⟨A5, c5, rfl, ⟨o, ⟨g', R'⟩, k⟩⟩⟩
  have H6 : As (∀ wX b g, Rdr wX b g s2 → Calls Tryz.prog 90 #[.pointer (some ⟨b, 0, none⟩)] wX fun e w' => e = .returned (.bool wh) ∧ w' = wX) := ⟨fun wX b g R => by rw [← hwh]; exact reader.whole_any b g s2 wX R⟩
  have bmk : (mark == mark) = true := by simp
  have HDL := As.mk hDL
  have HVL := As.mk hvl
  have HS2 : As (wh = true ↔ s2 = some []) := ⟨by rw [← hwh]; simp [whole]⟩
  obtain ⟨R, hR⟩ : ∃ R, (if s2 = some [] ∧ (dat.length : Int) ≤ most then (vs, dat, (0 : Int)) else ([], [], 3)) = R := ⟨_, rfl⟩
  have HR0 : As (wh = true → (DL : Int) ≤ most → R = (vs, dat, 0)) := ⟨fun h1 h2 => by rw [← hR, if_pos ⟨HS2.out.1 h1, by rw [hDL]; exact h2⟩]⟩
  have HR3 : As (¬ (wh = true ∧ (DL : Int) ≤ most) → R = ([], [], 3)) := ⟨fun h => by rw [← hR, if_neg (fun e => h ⟨HS2.out.2 e.1, by rw [← hDL]; exact e.2⟩)]⟩
  rw [hR]
  have HWH := As.mk hwh
  have FIN : As (∀ b w3 w4 w5, Kp [b] w w3 → w.heap.size ≤ b → w4.os = w3.os ∧ w4.tape = w3.tape ∧ w4.output = w3.output ∧ w3.heap.size ≤ w4.heap.size ∧ (∀ k, k < w3.heap.size → k ≠ b → w4.heap[k]? = (putAll w3 (ps.zip vs)).heap[k]?) → Kp [b] w4 w5 →
      w5.os = w.os ∧ w5.tape = w.tape ∧ w5.output = w.output ∧ w.heap.size ≤ w5.heap.size ∧ ∀ k, k < w.heap.size → w5.heap[k]? = (putAll w (ps.zip vs)).heap[k]?) := ⟨fun b w3 w4 w5 k3 hb h4 k5 => by
    obtain ⟨p1, p2, p3, p4, p5⟩ := h4
    have z3 := k3.size
    have z5 := k5.size
    refine ⟨k5.os.trans (p1.trans k3.os), k5.tape.trans (p2.trans k3.tape), k5.output.trans (p3.trans k3.output), by omega, fun k hk => ?_⟩
    rw [k5.block k (by omega) (by simp; omega), p5 k (by omega) (by omega)]
    exact putAll_congr w.heap.size (fun j hj => k3.block j hj (by simp; omega)) _ k hk⟩
  clear hN hn hr hc hw hm he hp hl hps hB hq hs1 hdat hs2 hvs hDL hwh hvl HWH HS2 hR hs1l hrl hBl
  go_enter Tryz.func83, Tryz.ntmps83
  by_cases hmo : (DL : Int) ≤ most <;> cases wh
  all_goals go_wp2_with (first
    | (go_at_call 113; refine H1.out.mono ?_; rintro e w1 ⟨A1, c1, rfl, r1, n1, k1⟩; have HK1 := As.mk k1; have HN1 := As.mk (H2.out w1 A1 c1 r1 n1); clear k1 r1 n1 H1 H2)
    | (go_at_call 86; refine HN1.out.mono ?_; rintro e w2 ⟨b, g, rfl, R2, hb, hg, k2⟩; have HB := As.mk (show w.heap.size ≤ b ∧ ∀ x, g = some x → w.heap.size ≤ x from ⟨Nat.le_trans HK1.out.size hb, fun x hx => Nat.le_trans HK1.out.size (hg x hx).1⟩); have HK2 : As (Kp [] w w2) := ⟨HK1.out.trans k2 (by simp)⟩; have HRA := As.mk (H3.out w2 b g R2); clear R2 hb hg k2 HN1 H3)
    | (go_at_call 114; refine HRA.out.mono ?_; rintro e w3 ⟨gv, c3, rfl, d3, HR3', k3⟩; have HK3 : As (Kp [b] w w3) := ⟨(HK2.out.mono (by simp)).trans k3 (fun x hx => .inl hx)⟩; have HNU : As (Calls Tryz.prog 115 #[.pointer (some ⟨b, 0, none⟩), .slice (some ⟨B, 0, none⟩) 3 3] w3 fun e w' => e = .returned (.tuple #[]) ∧ As ((∃ g', Rdr w' b g' s1) ∧ w'.os = w3.os ∧ w'.tape = w3.tape ∧ w'.output = w3.output ∧ w3.heap.size ≤ w'.heap.size ∧ ∀ k, k < w3.heap.size → k ≠ b → w'.heap[k]? = (putAll w3 (ps.zip vs)).heap[k]?)) := ⟨HR3'.out.elim (fun g' h => H4.out w3 b g' (.inr HK3.out) HB.out.1 (fun x hx => h.2.elim (fun e => HB.out.2 x (by rw [← e]; exact hx)) (fun e => by rw [e] at hx; cases hx)) h.1)⟩; clear k3 HRA H4 HR3')
    | (go_at_call 115; refine HNU.out.mono ?_; rintro e w4 ⟨rfl, HN4⟩; have HBY : As (Calls Tryz.prog 88 #[.pointer (some ⟨b, 0, none⟩)] w4 fun e w' => ∃ A5 c5, e = .returned (.slice A5 DL c5) ∧ As (Own 5 .u8 w' w4.heap.size (.slice A5 DL c5) dat ∧ (∃ g', Rdr w' b g' s2) ∧ Kp [b] w4 w')) := ⟨HN4.out.1.elim (fun g' h => H5.out w4 b g' h)⟩; clear HNU H5 d3)
    | (go_at_call 88; refine HBY.out.mono ?_; rintro e w5 ⟨A5, c5, rfl, HO5⟩; have HWO : As (∀ wX, wX = w5 → Calls Tryz.prog 90 #[.pointer (some ⟨b, 0, none⟩)] wX fun e w' => e = .returned (.bool _) ∧ w' = wX) := ⟨fun wX e => by subst e; exact HO5.out.2.1.elim (fun g' h => H6.out _ b g' h)⟩; clear HBY H6)
    | (go_at_call 90; refine (HWO.out _ rfl).mono ?_; rintro e w6 ⟨rfl, rfl⟩; clear HWO))
  · have F := FIN.out b w3 w4 _ HK3.out HB.out.1 HN4.out.2 HO5.out.2.2
    go_ret2
    rw [HR3.out (by simp)]
    exact ⟨_, vs, rfl, Own.nil _ _ _ _, by rw [HVL.out]; omega, HVB.out, (fun e => by cases e), F⟩
  · have F := FIN.out b w3 w4 _ HK3.out HB.out.1 HN4.out.2 HO5.out.2.2
    go_ret2
    rw [HR0.out (by simp) hmo]
    exact ⟨_, vs, rfl, HO5.out.1.lower (by have := HK3.out.size; have := HN4.out.2.2.2.2.1; omega), by rw [HVL.out]; omega, HVB.out, fun _ => rfl, F⟩
  · have F := FIN.out b w3 w4 _ HK3.out HB.out.1 HN4.out.2 HO5.out.2.2
    go_ret2
    rw [HR3.out (by simp)]
    exact ⟨_, vs, rfl, Own.nil _ _ _ _, by rw [HVL.out]; omega, HVB.out, (fun e => by cases e), F⟩
  · have F := FIN.out b w3 w4 _ HK3.out HB.out.1 HN4.out.2 HO5.out.2.2
    go_ret2
    rw [HR3.out (fun e => by omega)]
    exact ⟨_, vs, rfl, Own.nil _ _ _ _, by rw [HVL.out]; omega, HVB.out, (fun e => by cases e), F⟩

theorem fDec_small {b : List Int} : (fDec b).1.length ≤ 1048576 := by
  unfold fDec
  split
  · simp
  · split
    · simp
    · split
      · simp
      · split
        · simp
        · split
          · simp
          · simp only [List.length_drop, List.length_take]
            omega
theorem fOne_small {b : List Int} : (fOne b).1.length ≤ 1048576 := by
  unfold fOne
  split
  · simp
  · exact fDec_small
theorem fOne_wf {b : List Int} (h : Wf b) : Wf (fOne b).1 := by
  unfold fOne
  split
  · exact Wf.nil
  · exact fDec_wf h
theorem read_any (A : Option Addr) (n c : Nat) (xs : List Int) (mark : Int) (most : Nat) (B : Nat) (ps : List (Option Addr)) (w : World) (hn : xs.length = n) (hr : Rd w A (iv .u8 xs)) (hc : n ≤ c) (hw : Wf xs) (hm : n ≤ 140737488351232)
    (hps : ps.length = 3) (hB : Rd w (some ⟨B, 0, none⟩) (ps.map Value.pointer)) (hq : ∀ p ∈ ps, ∀ q, p = some q → q.block ≠ B ∧ IsInt w q) :
    Calls Tryz.prog 83 #[.slice A n c, .int .u8 mark, .int .i64 most, .slice (some ⟨B, 0, none⟩) 3 3] w (RdP (rd3 mark most xs) ps w) := by
  by_cases h0 : (fOne xs).2 ≠ 0
  · rw [rd3, if_pos h0]
    refine (read_err A n c xs mark most _ (fOne xs).2 w hn hr hc hw hm rfl h0).mono ?_
    rintro e w' ⟨rfl, k⟩
    exact RdP.kp0 h0 k
  · have h0 : (fOne xs).2 = 0 := by omega
    have hwf := fOne_wf hw
    have hsm := fOne_small (b := xs)
    rw [rd3, if_neg (by rw [h0]; simp)]
    obtain ⟨p, hp⟩ : ∃ p, (fOne xs).1 = p := ⟨_, rfl⟩
    have he : fOne xs = (p, 0) := Prod.ext hp h0
    rw [hp] at hwf hsm ⊢
    cases p with
    | nil =>
      rw [if_pos (by simp [stRaw])]
      refine (read_empty A n c xs mark most _ w hn hr hc hw hm he).mono ?_
      rintro e w' ⟨rfl, k⟩
      exact RdP.kp0 (by decide) k
    | cons mk r =>
      have hst : O.stRaw 1 (some (mk :: r)) = ([mk], some r) := by
        rw [O.stRaw]
        rw [if_neg (by simp only [List.length_cons]; omega)]
        rfl
      rw [hst]
      by_cases hmk : mk = mark
      · subst hmk
        rw [if_neg (by simp)]
        have := read_good A n c xs mk most B ps r w hn hr hc hw hm he hwf (by omega) hps hB hq
        simp only [Int.ofNat_le] at this
        exact this
      · rw [if_pos (by simpa using hmk)]
        refine (read_mark A n c xs mark most _ mk r w hn hr hc hw hm he hwf (by omega) hmk).mono ?_
        rintro e w' ⟨rfl, k⟩
        exact RdP.kp0 (by decide) k
end Go.Proofs.YtdiljpdohmeceaaGreat.wir

/- wire: may a reply be? -/
namespace Go.Proofs.YtdiljpdohmeceaaGreat.co
open Go.RowKit H O opk frame wir

set_option maxHeartbeats 4000000 in
set_option maxRecDepth 100000 in
theorem pmay_any (k c s : Int) (v : Value) (w : World) : Calls Tryz.prog 84 #[.agg #[.int .i64 k, .int .i64 c, .int .i64 s, v]] w fun e w' => e = .returned (.bool (wrOk k c s)) ∧ Kp [] w w' := by
  have hbX := heap_alloc_new w (.cells #[.int .i64 k, .int .i64 c, .int .i64 s, v] 112)
  have HK : As (Kp [] w (w.alloc (.cells #[.int .i64 k, .int .i64 c, .int .i64 s, v] 112))) := ⟨(Kp.refl [] w).alloc _⟩
  have x0 := blk_cell hbX 0 rfl
  have x1 := blk_cell hbX 1 rfl
  have x2 := blk_cell hbX 2 rfl
  obtain ⟨b0, hb0⟩ : ∃ b, decide (0 ≤ k ∧ k ≤ 1099511627776) = b := ⟨_, rfl⟩
  obtain ⟨b1, hb1⟩ : ∃ b, decide (0 ≤ c ∧ c ≤ 100) = b := ⟨_, rfl⟩
  obtain ⟨b2, hb2⟩ : ∃ b, decide (-1 ≤ s ∧ s ≤ 255) = b := ⟨_, rfl⟩
  have H0 := As.mk (fun wX => within_any k 0 1099511627776 wX)
  have H1 := As.mk (fun wX => within_any c 0 100 wX)
  have H2 := As.mk (fun wX => within_any s (-1) 255 wX)
  rw [hb0] at H0
  rw [hb1] at H1
  rw [hb2] at H2
  have HF : As (wrOk k c s = (b0 && b1 && b2)) := ⟨by rw [wrOk, hb0, hb1, hb2]⟩
  clear hbX hb0 hb1 hb2
  go_enter Tryz.func84, Tryz.ntmps84
  cases b0 <;> cases b1 <;> cases b2
  all_goals go_wp2_with (first
    | (go_at_call 116; refine (H0.out _).mono ?_; rintro e w1 ⟨rfl, rfl⟩; clear H0)
    | (go_at_call 116; refine (H1.out _).mono ?_; rintro e w2 ⟨rfl, rfl⟩; clear H1)
    | (go_at_call 116; refine (H2.out _).mono ?_; rintro e w3 ⟨rfl, rfl⟩; clear H2))
  all_goals go_ret
  all_goals exact ⟨ret_bool (by rw [HF.out]; rfl), HK.out⟩
end Go.Proofs.YtdiljpdohmeceaaGreat.co

/- A block of four cells (type wire.Reply). -/
namespace Go.Proofs.YtdiljpdohmeceaaGreat.rp
open Go.RowKit H O

def Q4 (w : World) (R : Nat) (a b c v : Value) : Prop := w.heap[R]? = some (.cells #[a, b, c, v] 112)
theorem Q4.cells {w : World} {R : Nat} {a b c v : Value} (h : Q4 w R a b c v) : w.cell? ⟨R, 0, none⟩ = some a ∧ w.cell? ⟨R, 1, none⟩ = some b ∧ w.cell? ⟨R, 2, none⟩ = some c ∧ w.cell? ⟨R, 3, none⟩ = some v := ⟨blk_cell h 0 rfl, blk_cell h 1 rfl, blk_cell h 2 rfl, blk_cell h 3 rfl⟩
theorem Q4.new (w : World) (a b c v : Value) : Q4 (w.alloc (.cells #[a, b, c, v] 112)) w.heap.size a b c v := heap_alloc_new w _
theorem Q4.kp {S : List Nat} {w w1 : World} {R : Nat} {a b c v : Value} (h : Q4 w R a b c v) (hk : Kp S w w1) (hb : R ∉ S) : Q4 w1 R a b c v := hk.blk h hb
theorem Q4.free {w : World} {R : Nat} {a b c v : Value} (h : Q4 w R a b c v) (j : Nat) : w.frozen? ⟨R, j, none⟩ = false := blk_free h j
theorem Q4.res {fn : Func} {tmps : Array Value} {w : World} {R : Nat} {a b c v : Value} (h : Q4 w R a b c v) (hf : fn.results = #[.cell 2 112, .tmp 3]) (h2 : tmps.getD 2 undef = .pointer (some ⟨R, 0, none⟩)) :
    (results fn tmps).run Tryz.prog w = .ok (.tuple #[.agg #[a, b, c, v], tmps.getD 3 undef]) w := by
  have hl := run_loadVar_row (P := Tryz.prog) w R 112 112 _ (0, 0) _ h Tryz.underlying112 rfl (by kernel_rfl)
  rw [results_cell_tmp hf, h2]
  simp [asAddr, hl, Result.andThen]
theorem Q4.set {w : World} {R : Nat} {a b c v : Value} (h : Q4 w R a b c v) (a2 b2 c2 v2 : Value) :
    Q4 ((((w.setCell ⟨R, 0, none⟩ a2).setCell ⟨R, 1, none⟩ b2).setCell ⟨R, 2, none⟩ c2).setCell ⟨R, 3, none⟩ v2) R a2 b2 c2 v2 ∧ Kp [R] w ((((w.setCell ⟨R, 0, none⟩ a2).setCell ⟨R, 1, none⟩ b2).setCell ⟨R, 2, none⟩ c2).setCell ⟨R, 3, none⟩ v2) := by
  have e1 : Q4 (w.setCell ⟨R, 0, none⟩ a2) R a2 b c v := heap_setCell_same w R 0 _ _ a2 h
  have e2 : Q4 ((w.setCell ⟨R, 0, none⟩ a2).setCell ⟨R, 1, none⟩ b2) R a2 b2 c v := heap_setCell_same _ R 1 _ _ b2 e1
  have e3 : Q4 (((w.setCell ⟨R, 0, none⟩ a2).setCell ⟨R, 1, none⟩ b2).setCell ⟨R, 2, none⟩ c2) R a2 b2 c2 v := heap_setCell_same _ R 2 _ _ c2 e2
  exact ⟨heap_setCell_same _ R 3 _ _ v2 e3, ((((Kp.refl _ w).setCell (.inl (by simp)) _).setCell (.inl (by simp)) _).setCell (.inl (by simp)) _).setCell (.inl (by simp)) _⟩
end Go.Proofs.YtdiljpdohmeceaaGreat.rp

/- wire.DecodeReply in full. -/
namespace Go.Proofs.YtdiljpdohmeceaaGreat.wir
open Go.RowKit H O opk frame co reader

theorem put3 {w : World} {R E H : Nat} {t u : TypeId} {v : Value} (hR : w.heap[R]? = some (.cells #[.int .i64 0, .int .i64 0, .int .i64 0, v] t (0, 0))) (hE : w.heap[E]? = some (.cells #[.int .i64 0] u (0, 0))) (hH : w.heap[H]? = some (.cells #[.int .i64 0] u (0, 0)))
    (h1 : R ≠ E) (h2 : R ≠ H) (h3 : E ≠ H) : ∀ (vs : List Int), vs.length ≤ 3 →
    (putAll w ([some ⟨R, 0, none⟩, some ⟨E, 0, none⟩, some ⟨H, 0, none⟩].zip vs)).heap[R]? = some (.cells #[.int .i64 (vs.getD 0 0), .int .i64 0, .int .i64 0, v] t (0, 0)) ∧
    (putAll w ([some ⟨R, 0, none⟩, some ⟨E, 0, none⟩, some ⟨H, 0, none⟩].zip vs)).heap[E]? = some (.cells #[.int .i64 (vs.getD 1 0)] u (0, 0)) ∧
    (putAll w ([some ⟨R, 0, none⟩, some ⟨E, 0, none⟩, some ⟨H, 0, none⟩].zip vs)).heap[H]? = some (.cells #[.int .i64 (vs.getD 2 0)] u (0, 0))
  | [], _ => ⟨hR, hE, hH⟩
  | [a], _ => by
    refine ⟨?_, ?_, ?_⟩
    · exact heap_setCell_same w R 0 _ _ (.int .i64 a) hR
    · exact (heap_setCell_other w ⟨R, 0, none⟩ E _ (Ne.symm h1)).trans hE
    · exact (heap_setCell_other w ⟨R, 0, none⟩ H _ (Ne.symm h2)).trans hH
  | [a, b], _ => by
    have a1 := heap_setCell_same w R 0 _ _ (.int .i64 a) hR
    have a2 := (heap_setCell_other w ⟨R, 0, none⟩ E (.int .i64 a) (Ne.symm h1)).trans hE
    have a3 := (heap_setCell_other w ⟨R, 0, none⟩ H (.int .i64 a) (Ne.symm h2)).trans hH
    refine ⟨?_, ?_, ?_⟩
    · exact (heap_setCell_other _ ⟨E, 0, none⟩ R (.int .i64 b) h1).trans a1
    · exact heap_setCell_same _ E 0 _ _ (.int .i64 b) a2
    · exact (heap_setCell_other _ ⟨E, 0, none⟩ H (.int .i64 b) (Ne.symm h3)).trans a3
  | a :: b :: c :: l, _ => by
    have a1 := heap_setCell_same w R 0 _ _ (.int .i64 a) hR
    have a2 := (heap_setCell_other w ⟨R, 0, none⟩ E (.int .i64 a) (Ne.symm h1)).trans hE
    have a3 := (heap_setCell_other w ⟨R, 0, none⟩ H (.int .i64 a) (Ne.symm h2)).trans hH
    have b1 := (heap_setCell_other _ ⟨E, 0, none⟩ R (.int .i64 b) h1).trans a1
    have b2 := heap_setCell_same _ E 0 _ _ (.int .i64 b) a2
    have b3 := (heap_setCell_other _ ⟨E, 0, none⟩ H (.int .i64 b) (Ne.symm h3)).trans a3
    refine ⟨?_, ?_, ?_⟩
    · exact (heap_setCell_other _ ⟨H, 0, none⟩ R (.int .i64 c) h2).trans b1
    · exact (heap_setCell_other _ ⟨H, 0, none⟩ E (.int .i64 c) h3).trans b2
    · exact heap_setCell_same _ H 0 _ _ (.int .i64 c) b3
theorem put3_far (w : World) (R E H k : Nat) (h1 : k ≠ R) (h2 : k ≠ E) (h3 : k ≠ H) (vs : List Int) : (putAll w ([some ⟨R, 0, none⟩, some ⟨E, 0, none⟩, some ⟨H, 0, none⟩].zip vs)).heap[k]? = w.heap[k]? := by
  refine putAll_far _ _ _ (fun x hx a ha => ?_)
  have := (List.of_mem_zip (a := x.1) (b := x.2) hx).1
  rw [ha] at this
  simp only [List.mem_cons, List.not_mem_nil, or_false, Option.some.injEq] at this
  rcases this with rfl | rfl | rfl
  · exact Ne.symm h1
  · exact Ne.symm h2
  · exact Ne.symm h3

/-- the world in which DecodeReply reads -/
def drW (w : World) : World := ((((w.alloc (.cells #[.int .i64 0, .int .i64 0, .int .i64 0, .slice none 0 0] 112)).alloc (.cells #[.int .i64 0, .int .i64 0, .int .i64 0, .slice none 0 0] 112)).alloc (.cells #[.int .i64 0] 3)).alloc (.cells #[.int .i64 0] 3)).alloc (.cells #[.pointer (some ⟨w.heap.size + 1, 0, none⟩), .pointer (some ⟨w.heap.size + 1 + 1, 0, none⟩), .pointer (some ⟨w.heap.size + 1 + 1 + 1, 0, none⟩)] 155)
structure DrW (w w5 : World) : Prop where
  size : w5.heap.size = w.heap.size + 5
  q0 : rp.Q4 w5 w.heap.size (.int .i64 0) (.int .i64 0) (.int .i64 0) (.slice none 0 0)
  q1 : rp.Q4 w5 (w.heap.size + 1) (.int .i64 0) (.int .i64 0) (.int .i64 0) (.slice none 0 0)
  e : w5.heap[w.heap.size + 1 + 1]? = some (.cells #[.int .i64 0] 3 (0, 0))
  h : w5.heap[w.heap.size + 1 + 1 + 1]? = some (.cells #[.int .i64 0] 3 (0, 0))
  p : w5.heap[w.heap.size + 1 + 1 + 1 + 1]? = some (.cells #[.pointer (some ⟨w.heap.size + 1, 0, none⟩), .pointer (some ⟨w.heap.size + 1 + 1, 0, none⟩), .pointer (some ⟨w.heap.size + 1 + 1 + 1, 0, none⟩)] 155 (0, 0))
  kp : Kp [] w w5
theorem drW_is (w : World) : DrW w (drW w) := by
  obtain ⟨w1, h1⟩ : ∃ w1, w.alloc (.cells #[.int .i64 0, .int .i64 0, .int .i64 0, .slice none 0 0] 112) = w1 := ⟨_, rfl⟩
  obtain ⟨w2, h2⟩ : ∃ w2, w1.alloc (.cells #[.int .i64 0, .int .i64 0, .int .i64 0, .slice none 0 0] 112) = w2 := ⟨_, rfl⟩
  obtain ⟨w3, h3⟩ : ∃ w3, w2.alloc (.cells #[.int .i64 0] 3) = w3 := ⟨_, rfl⟩
  obtain ⟨w4, h4⟩ : ∃ w4, w3.alloc (.cells #[.int .i64 0] 3) = w4 := ⟨_, rfl⟩
  have s1 : w1.heap.size = w.heap.size + 1 := by rw [← h1, World.size_alloc]
  have s2 : w2.heap.size = w.heap.size + 1 + 1 := by rw [← h2, World.size_alloc, s1]
  have s3 : w3.heap.size = w.heap.size + 1 + 1 + 1 := by rw [← h3, World.size_alloc, s2]
  have s4 : w4.heap.size = w.heap.size + 1 + 1 + 1 + 1 := by rw [← h4, World.size_alloc, s3]
  have b1 := heap_alloc_new w (.cells #[.int .i64 0, .int .i64 0, .int .i64 0, .slice none 0 0] 112)
  rw [h1] at b1
  have b2 := heap_alloc_new w1 (.cells #[.int .i64 0, .int .i64 0, .int .i64 0, .slice none 0 0] 112)
  rw [h2, s1] at b2
  have b3 := heap_alloc_new w2 (.cells #[.int .i64 0] 3)
  rw [h3, s2] at b3
  have b4 := heap_alloc_new w3 (.cells #[.int .i64 0] 3)
  rw [h4, s3] at b4
  have c1 := blk_alloc (blk_alloc (blk_alloc b1 (.cells #[.int .i64 0, .int .i64 0, .int .i64 0, .slice none 0 0] 112)) (.cells #[.int .i64 0] 3)) (.cells #[.int .i64 0] 3)
  rw [h2, h3, h4] at c1
  have c2 := blk_alloc (blk_alloc b2 (.cells #[.int .i64 0] 3)) (.cells #[.int .i64 0] 3)
  rw [h3, h4] at c2
  have c3 := blk_alloc b3 (.cells #[.int .i64 0] 3)
  rw [h4] at c3
  unfold drW
  rw [h1, h2, h3, h4]
  refine ⟨by rw [World.size_alloc, s4], blk_alloc c1 _, blk_alloc c2 _, blk_alloc c3 _, blk_alloc b4 _, by rw [← s4]; exact heap_alloc_new w4 _, ?_⟩
  rw [← h4, ← h3, ← h2, ← h1]
  exact (((((Kp.refl [] w).alloc _).alloc _).alloc _).alloc _).alloc _

/-- behind DecodeReply -/
def DWR (xs : List Int) (w : World) (e : Ending) (w' : World) : Prop :=
  ∃ A n c, e = .returned (.tuple #[.agg #[.int .i64 (dWRep xs).1.ctx, .int .i64 (dWRep xs).1.err, .int .i64 (dWRep xs).1.hint, .slice A n c], .int .i64 (dWRep xs).2]) ∧ Own 5 .u8 w' w.heap.size (.slice A n c) (dWRep xs).1.data ∧ Kp [] w w'

/-- behind the read -/
structure DrR (w w6 : World) (x0 x1 x2 : Int) (D : Value) (dat : List Int) : Prop where
  q0 : rp.Q4 w6 w.heap.size (.int .i64 0) (.int .i64 0) (.int .i64 0) (.slice none 0 0)
  q1 : rp.Q4 w6 (w.heap.size + 1) (.int .i64 x0) (.int .i64 0) (.int .i64 0) (.slice none 0 0)
  e : w6.heap[w.heap.size + 1 + 1]? = some (.cells #[.int .i64 x1] 3 (0, 0))
  h : w6.heap[w.heap.size + 1 + 1 + 1]? = some (.cells #[.int .i64 x2] 3 (0, 0))
  kp : Kp [] w w6
  own : Own 5 .u8 w6 (w.heap.size + 5) D dat
theorem DrW.read {w w5 : World} (W : DrW w w5) (A : Option Addr) (n c : Nat) (xs : List Int) (hn : xs.length = n) (hr : Rd w A (iv .u8 xs)) (hc : n ≤ c) (hw : Wf xs) (hm : n ≤ 140737488351232) :
    Calls Tryz.prog 83 #[.slice A n c, .int .u8 114, .int .i64 524288, .slice (some ⟨w.heap.size + 1 + 1 + 1 + 1, 0, none⟩) 3 3] w5 fun e w6 => ∃ A1 n1 c1 x0 x1 x2, e = .returned (.tuple #[.slice A1 n1 c1, .int .i64 (rd3 114 524288 xs).2.2]) ∧ 0 ≤ x2 ∧ x2 ≤ 4611686018427387904 ∧
      As (DrR w w6 x0 x1 x2 (.slice A1 n1 c1) (rd3 114 524288 xs).2.1 ∧ ((rd3 114 524288 xs).2.2 = 0 → x0 = (rd3 114 524288 xs).1.getD 0 0 ∧ x1 = (rd3 114 524288 xs).1.getD 1 0 ∧ x2 = (rd3 114 524288 xs).1.getD 2 0)) := by
  have hz := W.size
  refine (read_any A n c xs 114 524288 (w.heap.size + 1 + 1 + 1 + 1) [some ⟨w.heap.size + 1, 0, none⟩, some ⟨w.heap.size + 1 + 1, 0, none⟩, some ⟨w.heap.size + 1 + 1 + 1, 0, none⟩] w5 hn (W.kp.rd_new hr (by simp)) hc hw hm rfl (fun j v hv => ?_) (fun p hp q hpq => ?_)).mono ?_
  · refine ⟨_, rfl, ?_⟩
    rw [Addr.add_lit]
    have := blk_cell W.p j (v := v) (by simpa using hv)
    simpa using this
  · subst hpq
    simp only [List.mem_cons, List.not_mem_nil, or_false, Option.some.injEq] at hp
    rcases hp with rfl | rfl | rfl
    · exact ⟨by show w.heap.size + 1 ≠ _; omega, ⟨⟨0, W.q1.cells.1⟩, W.q1.free 0⟩⟩
    · exact ⟨by show w.heap.size + 1 + 1 ≠ _; omega, ⟨⟨0, blk_cell W.e 0 rfl⟩, blk_free W.e 0⟩⟩
    · exact ⟨by show w.heap.size + 1 + 1 + 1 ≠ _; omega, ⟨⟨0, blk_cell W.h 0 rfl⟩, blk_free W.h 0⟩⟩
  · rintro e w6 ⟨D, vs, rfl, o, hl, hb, hv, o1, o2, o3, o4, o5⟩
    obtain ⟨A1, c1, rfl, _⟩ := own_rd o.1
    have P := put3 W.q1 W.e W.h (by omega) (by omega) (by omega) vs hl
    refine ⟨A1, _, c1, vs.getD 0 0, vs.getD 1 0, vs.getD 2 0, rfl, ?_, ?_, ⟨⟨?_, ?_, ?_, ?_, ?_, ?_⟩, fun e0 => by rw [hv e0]; exact ⟨rfl, rfl, rfl⟩⟩⟩
    · by_cases h2 : 2 < vs.length
      · have := hb vs[2] (List.getElem_mem h2); simpa [List.getD, h2] using this.1
      · simp [List.getD, List.getElem?_eq_none (by omega : vs.length ≤ 2)]
    · by_cases h2 : 2 < vs.length
      · have := hb vs[2] (List.getElem_mem h2); simpa [List.getD, h2] using this.2
      · simp [List.getD, List.getElem?_eq_none (by omega : vs.length ≤ 2)]
    · exact (o5 _ (by omega)).trans ((put3_far w5 _ _ _ _ (by omega) (by omega) (by omega) vs).trans W.q0)
    · exact (o5 _ (by omega)).trans P.1
    · exact (o5 _ (by omega)).trans P.2.1
    · exact (o5 _ (by omega)).trans P.2.2
    · refine ⟨o1.trans W.kp.os, o2.trans W.kp.tape, o3.trans W.kp.output, by omega, fun k hk _ => ?_⟩
      rw [o5 k (by omega), put3_far w5 _ _ _ k (by omega) (by omega) (by omega) vs]
      exact W.kp.block k hk (by simp)
    · rw [hz] at o
      exact o

theorem dWRep_err {xs : List Int} {er : Int} (h : (rd3 114 524288 xs).2.2 = er) (h0 : er ≠ 0) : dWRep xs = (⟨0, 0, 0, []⟩, er) := by rw [dWRep, if_pos (by rw [h]; exact h0), h]
set_option maxHeartbeats 8000000 in
set_option maxRecDepth 100000 in
theorem decodeReply_err (A : Option Addr) (n c : Nat) (xs : List Int) (er : Int) (w : World) (hn : xs.length = n) (hr : Rd w A (iv .u8 xs)) (hc : n ≤ c) (hw : Wf xs) (hm : n ≤ 140737488351232) (he : (rd3 114 524288 xs).2.2 = er) (h0 : er ≠ 0) :
    Calls Tryz.prog 44 #[.slice A n c] w (DWR xs w) := by
  have HD := As.mk (dWRep_err he h0)
  have HRD := As.mk ((drW_is w).read A n c xs hn hr hc hw hm)
  rw [he] at HRD
  have bne : (er == 0) = false := by simpa using h0
  clear hn hr hc hw hm he h0
  unfold drW at HRD
  go_enter Tryz.func44, Tryz.ntmps44
  go_wp2_with (go_at_call 83; refine HRD.out.mono ?_; rintro e w6 ⟨A1, n1, c1, x0, x1, x2, rfl, hx0, hx2, HZ⟩; obtain ⟨q0, q1, q2, q3⟩ := HZ.out.1.q0.cells; have f0 := HZ.out.1.q0.free 0; have f1 := HZ.out.1.q0.free 1; have f2 := HZ.out.1.q0.free 2; have f3 := HZ.out.1.q0.free 3; obtain ⟨r0, r1, r2, r3⟩ := HZ.out.1.q1.cells; have g1 := HZ.out.1.q1.free 1; have g2 := HZ.out.1.q1.free 2; have p0 := blk_cell HZ.out.1.e 0 rfl; have p1 := blk_cell HZ.out.1.h 0 rfl; clear HRD)
  have kS : Kp [w.heap.size + 1] w6 ((w6.setCell ⟨w.heap.size + 1, 1, none⟩ (.int .i64 x1)).setCell ⟨w.heap.size + 1, 2, none⟩ (.int .i64 (x2 - 1))) := ((Kp.refl _ w6).setCell (.inl (by simp)) _).setCell (.inl (by simp)) _
  have hz := (HZ.out.1.q0.kp kS (by simp)).set (.int .i64 0) (.int .i64 0) (.int .i64 0) (.slice none 0 0)
  (try simp only [Exit.inBlock, Exit.then])
  refine bodyPost_ret (hz.1.res rfl rfl) rfl ?_
  refine ⟨none, 0, 0, by rw [HD.out]; rfl, by rw [HD.out]; exact Own.nil _ _ _ _, (HZ.out.1.kp.trans kS (by intro x hx; simp at hx; right; omega)).trans hz.2 (by intro x hx; simp at hx; right; omega)⟩

theorem dWRep_no {xs : List Int} {y0 y1 y2 : Int} (h : (rd3 114 524288 xs).2.2 = 0) (e0 : (rd3 114 524288 xs).1.getD 0 0 = y0) (e1 : (rd3 114 524288 xs).1.getD 1 0 = y1) (e2 : (rd3 114 524288 xs).1.getD 2 0 = y2) (hb : wrOk y0 y1 (y2 - 1) = false) : dWRep xs = (⟨0, 0, 0, []⟩, 3) := by
  rw [dWRep, if_neg (by rw [h]; simp), e0, e1, e2, if_neg (by rw [hb]; simp)]
theorem dWRep_ok {xs : List Int} {y0 y1 y2 : Int} (h : (rd3 114 524288 xs).2.2 = 0) (e0 : (rd3 114 524288 xs).1.getD 0 0 = y0) (e1 : (rd3 114 524288 xs).1.getD 1 0 = y1) (e2 : (rd3 114 524288 xs).1.getD 2 0 = y2) (hb : wrOk y0 y1 (y2 - 1) = true) : dWRep xs = (⟨y0, y1, y2 - 1, (rd3 114 524288 xs).2.1⟩, 0) := by
  rw [dWRep, if_neg (by rw [h]; simp), e0, e1, e2, if_pos hb]
set_option maxHeartbeats 16000000 in
set_option maxRecDepth 100000 in
theorem decodeReply_zero (A : Option Addr) (n c : Nat) (xs : List Int) (w : World) (hn : xs.length = n) (hr : Rd w A (iv .u8 xs)) (hc : n ≤ c) (hw : Wf xs) (hm : n ≤ 140737488351232) (he : (rd3 114 524288 xs).2.2 = 0) :
    Calls Tryz.prog 44 #[.slice A n c] w (DWR xs w) := by
  obtain ⟨y0, h0⟩ : ∃ y, (rd3 114 524288 xs).1.getD 0 0 = y := ⟨_, rfl⟩
  obtain ⟨y1, h1⟩ : ∃ y, (rd3 114 524288 xs).1.getD 1 0 = y := ⟨_, rfl⟩
  obtain ⟨y2, h2⟩ : ∃ y, (rd3 114 524288 xs).1.getD 2 0 = y := ⟨_, rfl⟩
  obtain ⟨dat, hd⟩ : ∃ y, (rd3 114 524288 xs).2.1 = y := ⟨_, rfl⟩
  obtain ⟨b, hb⟩ : ∃ b, wrOk y0 y1 (y2 - 1) = b := ⟨_, rfl⟩
  have HRD : As (Calls Tryz.prog 83 #[.slice A n c, .int .u8 114, .int .i64 524288, .slice (some ⟨w.heap.size + 1 + 1 + 1 + 1, 0, none⟩) 3 3] (drW w) fun e w6 => ∃ A1 n1 c1, e = .returned (.tuple #[.slice A1 n1 c1, .int .i64 0]) ∧ 0 ≤ y2 ∧ y2 ≤ 4611686018427387904 ∧ As (DrR w w6 y0 y1 y2 (.slice A1 n1 c1) dat)) := ⟨by
    refine ((drW_is w).read A n c xs hn hr hc hw hm).mono ?_
    rintro e w6 ⟨A1, n1, c1, x0, x1, x2, rfl, hx0, hx2, HZ⟩
    obtain ⟨e0, e1, e2⟩ := HZ.out.2 he
    rw [h0] at e0
    rw [h1] at e1
    rw [h2] at e2
    subst e0 e1 e2
    rw [← hd]
    exact ⟨A1, n1, c1, by rw [he], hx0, hx2, ⟨HZ.out.1⟩⟩⟩
  have HMY : As (∀ v wX, Calls Tryz.prog 84 #[.agg #[.int .i64 y0, .int .i64 y1, .int .i64 (y2 - 1), v]] wX fun e w' => e = .returned (.bool b) ∧ Kp [] wX w') := ⟨fun v wX => by rw [← hb]; exact pmay_any y0 y1 (y2 - 1) v wX⟩
  have HDN : As (b = false → dWRep xs = (⟨0, 0, 0, []⟩, 3)) := ⟨fun e => dWRep_no he h0 h1 h2 (by rw [hb]; exact e)⟩
  have HDO : As (b = true → dWRep xs = (⟨y0, y1, y2 - 1, dat⟩, 0)) := ⟨fun e => by rw [← hd]; exact dWRep_ok he h0 h1 h2 (by rw [hb]; exact e)⟩
  clear hn hr hc hw hm he h0 h1 h2 hd hb
  unfold drW at HRD
  go_enter Tryz.func44, Tryz.ntmps44
  go_upto_region 5 with (go_at_call 83; refine HRD.out.mono ?_; rintro e w6 ⟨A1, n1, c1, rfl, hx0, hx2, HZ⟩; obtain ⟨r0, r1, r2, r3⟩ := HZ.out.q1.cells; have g1 := HZ.out.q1.free 1; have g2 := HZ.out.q1.free 2; have p0 := blk_cell HZ.out.e 0 rfl; have p1 := blk_cell HZ.out.h 0 rfl; clear HRD)
  obtain ⟨w7, hw7⟩ : ∃ w7, (w6.setCell ⟨w.heap.size + 1, 1, none⟩ (.int .i64 y1)).setCell ⟨w.heap.size + 1, 2, none⟩ (.int .i64 (y2 - 1)) = w7 := ⟨_, rfl⟩
  have HQ : As (rp.Q4 w7 w.heap.size (.int .i64 0) (.int .i64 0) (.int .i64 0) (.slice none 0 0) ∧ rp.Q4 w7 (w.heap.size + 1) (.int .i64 y0) (.int .i64 y1) (.int .i64 (y2 - 1)) (.slice none 0 0) ∧ Kp [] w w7 ∧ Own 5 .u8 w7 (w.heap.size + 5) (.slice A1 n1 c1) dat) := ⟨by
    have kS : Kp [w.heap.size + 1] w6 w7 := by rw [← hw7]; exact ((Kp.refl _ w6).setCell (.inl (by simp)) _).setCell (.inl (by simp)) _
    refine ⟨HZ.out.q0.kp kS (by simp), ?_, HZ.out.kp.trans kS (by intro x hx; simp at hx; right; omega), HZ.out.own.kp kS (fun g hg => by have := HZ.out.own.2 g hg; simp; omega)⟩
    rw [← hw7]
    have a1 := heap_setCell_same w6 (w.heap.size + 1) 1 _ _ (.int .i64 y1) HZ.out.q1
    exact heap_setCell_same _ (w.heap.size + 1) 2 _ _ (.int .i64 (y2 - 1)) a1⟩
  rw [hw7]
  clear hw7 r0 r1 r2 r3 g1 g2 p0 p1 HZ
  obtain ⟨r0, r1, r2, r3⟩ := HQ.out.2.1.cells
  cases b
  · go_wp2_with (go_at_call 84; refine (HMY.out _ _).mono ?_; rintro e w8 ⟨rfl, k8⟩; have HK8 := As.mk k8; obtain ⟨q0, q1, q2, q3⟩ := (HQ.out.1.kp k8 (by simp)).cells; have f0 := (HQ.out.1.kp k8 (by simp)).free 0; have f1 := (HQ.out.1.kp k8 (by simp)).free 1; have f2 := (HQ.out.1.kp k8 (by simp)).free 2; have f3 := (HQ.out.1.kp k8 (by simp)).free 3; clear k8 HMY)
    have hz := (HQ.out.1.kp HK8.out (by simp)).set (.int .i64 0) (.int .i64 0) (.int .i64 0) (.slice none 0 0)
    (try simp only [Exit.inBlock, Exit.then])
    refine bodyPost_ret (hz.1.res rfl rfl) rfl ?_
    have e := HDN.out (by simp)
    exact ⟨none, 0, 0, by rw [e]; rfl, by rw [e]; exact Own.nil _ _ _ _, (HQ.out.2.2.1.trans HK8.out (by simp)).trans hz.2 (by intro x hx; simp at hx; right; omega)⟩
  · go_wp2_with (go_at_call 84; refine (HMY.out _ _).mono ?_; rintro e w8 ⟨rfl, k8⟩; have HK8 := As.mk k8; obtain ⟨q0, q1, q2, q3⟩ := (HQ.out.1.kp k8 (by simp)).cells; have f0 := (HQ.out.1.kp k8 (by simp)).free 0; have f1 := (HQ.out.1.kp k8 (by simp)).free 1; have f2 := (HQ.out.1.kp k8 (by simp)).free 2; have f3 := (HQ.out.1.kp k8 (by simp)).free 3; obtain ⟨t0, t1, t2, t3⟩ := (HQ.out.2.1.kp k8 (by simp)).cells; have v3 := (HQ.out.2.1.kp k8 (by simp)).free 3; clear k8 HMY)
    have kS : Kp [w.heap.size + 1] w8 (w8.setCell ⟨w.heap.size + 1, 3, none⟩ (.slice A1 n1 c1)) := (Kp.refl _ w8).setCell (.inl (by simp)) _
    have hz := ((HQ.out.1.kp HK8.out (by simp)).kp kS (by simp)).set (.int .i64 y0) (.int .i64 y1) (.int .i64 (y2 - 1)) (.slice A1 n1 c1)
    (try simp only [Exit.inBlock, Exit.then])
    refine bodyPost_ret (hz.1.res rfl rfl) rfl ?_
    have e := HDO.out (by simp)
    refine ⟨A1, n1, c1, by rw [e]; rfl, ?_, ((HQ.out.2.2.1.trans HK8.out (by simp)).trans kS (by intro x hx; simp at hx; right; omega)).trans hz.2 (by intro x hx; simp at hx; right; omega)⟩
    rw [e]
    have o := HQ.out.2.2.2
    exact (((o.kp HK8.out (by simp)).kp kS (fun g hg => by have := o.2 g hg; simp; omega)).kp hz.2 (fun g hg => by have := o.2 g hg; simp; omega)).lower (by omega)
theorem decodeReply_any (A : Option Addr) (n c : Nat) (xs : List Int) (w : World) (hn : xs.length = n) (hr : Rd w A (iv .u8 xs)) (hc : n ≤ c) (hw : Wf xs) (hm : n ≤ 140737488351232) :
    Calls Tryz.prog 44 #[.slice A n c] w (DWR xs w) := by
  by_cases h : (rd3 114 524288 xs).2.2 = 0
  · exact decodeReply_zero A n c xs w hn hr hc hw hm h
  · exact decodeReply_err A n c xs _ w hn hr hc hw hm rfl h
end Go.Proofs.YtdiljpdohmeceaaGreat.wir
