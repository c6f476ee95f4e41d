/- haystacklaw24.CoordTries: the plain law: one Get, nobody answers. -/
import Derived.Test.YtdiljpdohmeceaaGreatCpC
namespace Go.Proofs.YtdiljpdohmeceaaGreat.co
open Go.RowKit H O opk frame wir

def nodesOf (cf : Cfg) (sh : Nat) : List Int := cf.shards.getD sh []
/-- d times sent again, r Ticks waited -/
structure TrB (cf : Cfg) (key : ByteArray) (sh d r : Nat) (s : Cs) : Prop where
  jobs : s.jobs = [jGet key]
  ended : s.ended = 0
  done : s.done = []
  ctx : s.ctx = 1
  wl : sh < s.whom.length
  wh : s.whom.getD sh 0 = d % (nodesOf cf sh).length
  asks : ∃ fr h, s.asks = [⟨sh, 1, fr, d + 1, r, h, false, []⟩]
theorem getD_set_self {l : List Nat} {i x : Nat} (h : i < l.length) : (l.set i x).getD i 0 = x := by simp [List.getD, h]
theorem tr_first (cf : Cfg) (key : ByteArray) (hl : cf.shards.length = 2) :
    TrB cf key (shardOf (kb key) 2) 0 0 (tick cf (gives (newCs 2) (jGet key))).1 ∧ ∃ fr, (tick cf (gives (newCs 2) (jGet key))).2 = [⟨cf.id, (nodesOf cf (shardOf (kb key) 2)).getD 0 0, fr⟩] := by
  have hsh : shardOf (kb key) 2 < 2 := shardOf_lt _ (by decide)
  have hjs : jshards cf (jGet key) = [shardOf (kb key) 2] := by simp [jshards, jGet, hl]
  have hw : ∀ i, (List.replicate 2 0).getD i 0 = 0 := fun i => by
    match i with
    | 0 => rfl
    | 1 => rfl
    | i + 2 => rfl
  rw [tick_new (j := jGet key) (r := []) rfl rfl, hjs]
  refine ⟨⟨rfl, rfl, rfl, rfl, by show _ < 2; exact hsh, ?_, _, _, rfl⟩, frameOf cf 0 (jGet key) 1 (shardOf (kb key) 2), ?_⟩
  · show (List.replicate 2 0).getD _ 0 = 0 % _
    rw [hw, Nat.zero_mod]
  · show [msgOf cf (List.replicate 2 0) _] = _
    unfold msgOf dest
    rw [hw]
    rfl
theorem tr_wait {cf : Cfg} {key : ByteArray} {sh d r : Nat} {s : Cs} (h : TrB cf key sh d r s) (hr : r + 1 < cf.pat) : TrB cf key sh d (r + 1) (tick cf s).1 ∧ (tick cf s).2 = [] := by
  obtain ⟨fr, hh, ha⟩ := h.asks
  have hn : s.asks ≠ [] := by rw [ha]; simp
  have hg : tkGo cf s.asks.length 0 s.whom s.asks [] = (s.whom, [⟨sh, 1, fr, d + 1, r + 1, hh, false, []⟩], [], false) := by
    rw [ha]
    show tkGo cf (0 + 1) 0 _ _ _ = _
    rw [tkGo_step _ _ _ _ _ _ ⟨sh, 1, fr, d + 1, r, hh, false, []⟩ rfl, if_neg (by simp), if_pos hr]
    rfl
  rw [tick_go h.jobs hn hg]
  exact ⟨⟨h.jobs, h.ended, h.done, h.ctx, h.wl, h.wh, _, _, rfl⟩, rfl⟩
theorem tr_send {cf : Cfg} {key : ByteArray} {sh d r : Nat} {s : Cs} (h : TrB cf key sh d r s) (hr : r + 1 = cf.pat) (hd : d + 1 < cf.tries) :
    TrB cf key sh (d + 1) 0 (tick cf s).1 ∧ ∃ fr, (tick cf s).2 = [⟨cf.id, (nodesOf cf sh).getD ((d + 1) % (nodesOf cf sh).length) 0, fr⟩] := by
  obtain ⟨fr, hh, ha⟩ := h.asks
  have hn : s.asks ≠ [] := by rw [ha]; simp
  have hwx : (nextW cf s.whom sh).getD sh 0 = (d + 1) % (nodesOf cf sh).length := by
    unfold nextW
    rw [getD_set_self h.wl, h.wh]
    show (d % (nodesOf cf sh).length + 1) % (nodesOf cf sh).length = _
    rw [Nat.mod_add_mod]
  have hg : tkGo cf s.asks.length 0 s.whom s.asks [] = (nextW cf s.whom sh, [⟨sh, 1, fr, d + 1 + 1, 0, false, false, []⟩], [msgOf cf (nextW cf s.whom sh) ⟨sh, 1, fr, d + 1, r, hh, false, []⟩], false) := by
    rw [ha]
    show tkGo cf (0 + 1) 0 _ _ _ = _
    rw [tkGo_step _ _ _ _ _ _ ⟨sh, 1, fr, d + 1, r, hh, false, []⟩ rfl, if_neg (by simp), if_neg (by show ¬ r + 1 < cf.pat; omega), if_neg (by show ¬ cf.tries ≤ d + 1; omega)]
    rfl
  rw [tick_go h.jobs hn hg]
  refine ⟨⟨h.jobs, h.ended, h.done, h.ctx, by show sh < (nextW cf s.whom sh).length; rw [nextW_len]; exact h.wl, hwx, _, _, rfl⟩, fr, ?_⟩
  show [msgOf cf (nextW cf s.whom sh) _] = _
  unfold msgOf dest
  show [Msg.mk _ ((nodesOf cf sh).getD ((nextW cf s.whom sh).getD sh 0) 0) fr] = _
  rw [hwx]
theorem tr_end {cf : Cfg} {key : ByteArray} {sh d r : Nat} {s : Cs} (h : TrB cf key sh d r s) (hr : r + 1 = cf.pat) (hd : cf.tries ≤ d + 1) :
    ((tick cf s).1.jobs = [] ∧ (tick cf s).1.done = [⟨0, 14, false, false, [], []⟩]) ∧ (tick cf s).2 = [] := by
  obtain ⟨fr, hh, ha⟩ := h.asks
  have hn : s.asks ≠ [] := by rw [ha]; simp
  have hg : tkGo cf s.asks.length 0 s.whom s.asks [] = (s.whom, [⟨sh, 1, fr, d + 1, r + 1, hh, false, []⟩], [], true) := by
    rw [ha]
    show tkGo cf (0 + 1) 0 _ _ _ = _
    rw [tkGo_step _ _ _ _ _ _ ⟨sh, 1, fr, d + 1, r, hh, false, []⟩ rfl, if_neg (by simp), if_neg (by show ¬ r + 1 < cf.pat; omega), if_pos hd]
    rfl
  rw [tick_end h.jobs hn hg]
  refine ⟨⟨?_, ?_⟩, rfl⟩
  · show s.jobs.tail = []
    rw [h.jobs]
    rfl
  · show s.done ++ [⟨s.ended, 14, false, false, [], []⟩] = _
    rw [h.done, h.ended]
    rfl

/-- where the k-th Tick finds it: q have been sent; what it says (m: how many), what becomes of it -/
inductive TrAt (cf : Cfg) (key : ByteArray) (sh : Nat) : Nat → Nat → Cs → Prop
  | zero : TrAt cf key sh 0 0 (gives (newCs 2) (jGet key))
  | mid (d r : Nat) (s : Cs) (h : TrB cf key sh d r s) (hr : r < cf.pat) (hd : d < cf.tries) : TrAt cf key sh (d * cf.pat + r + 1) (d + 1) s
  | fin (s : Cs) (h : s.jobs = [] ∧ s.done = [⟨0, 14, false, false, [], []⟩]) : TrAt cf key sh (cf.tries * cf.pat + 1) cf.tries s
theorem TrAt.few {cf : Cfg} {key : ByteArray} {sh k q : Nat} {s : Cs} (h : TrAt cf key sh k q s) : s.ctx ≤ 1 ∨ s.jobs = [] := by
  cases h with
  | zero => exact .inl (by simp [gives, newCs])
  | mid d r s h hr hd => exact .inl (by rw [h.ctx]; omega)
  | fin s h => exact .inr h.1
/-- one round of the law -/
theorem TrAt.next {cf : Cfg} {key : ByteArray} {k q : Nat} {s : Cs} (h : TrAt cf key (shardOf (kb key) 2) k q s) (hl : cf.shards.length = 2) (hp : 1 ≤ cf.pat) (ht : 1 ≤ cf.tries) (hk : k < cf.tries * cf.pat + 1) :
    s.ctx ≤ 1 ∧ s.ended = 0 ∧ s.done = [] ∧
    ((k % cf.pat = 0 ∧ q < cf.tries ∧ TrAt cf key (shardOf (kb key) 2) (k + 1) (q + 1) (tick cf s).1 ∧ ∃ fr, (tick cf s).2 = [⟨cf.id, (nodesOf cf (shardOf (kb key) 2)).getD (q % (nodesOf cf (shardOf (kb key) 2)).length) 0, fr⟩]) ∨
     (¬ (k % cf.pat = 0 ∧ q < cf.tries) ∧ TrAt cf key (shardOf (kb key) 2) (k + 1) q (tick cf s).1 ∧ (tick cf s).2 = [])) := by
  cases h with
  | zero =>
    refine ⟨by simp [gives, newCs], rfl, rfl, .inl ⟨Nat.zero_mod _, ht, ?_, ?_⟩⟩
    · have := (tr_first cf key hl).1
      have h2 := TrAt.mid (cf := cf) 0 0 _ this hp ht
      simpa using h2
    · rw [Nat.zero_mod]
      exact (tr_first cf key hl).2
  | mid d r s h hr hd =>
    refine ⟨by rw [h.ctx]; omega, h.ended, h.done, ?_⟩
    by_cases h1 : r + 1 < cf.pat
    · refine .inr ⟨fun e => ?_, TrAt.mid d (r + 1) _ (tr_wait h h1).1 h1 hd, (tr_wait h h1).2⟩
      have e := e.1
      rw [show d * cf.pat + r + 1 = (r + 1) + cf.pat * d by rw [Nat.mul_comm]; omega, Nat.add_mul_mod_self_left, Nat.mod_eq_of_lt h1] at e
      omega
    · have h2 : r + 1 = cf.pat := by omega
      have h3 : d * cf.pat + r + 1 = (d + 1) * cf.pat := by rw [Nat.succ_mul]; omega
      have h4 : (d * cf.pat + r + 1) % cf.pat = 0 := by rw [h3]; exact Nat.mul_mod_left _ _
      by_cases h5 : d + 1 < cf.tries
      · refine .inl ⟨h4, h5, ?_, (tr_send h h2 h5).2⟩
        rw [h3]
        exact TrAt.mid (d + 1) 0 _ (tr_send h h2 h5).1 hp h5
      · have h6 : d + 1 = cf.tries := by omega
        refine .inr ⟨fun e => h5 e.2, ?_, (tr_end h h2 (by omega)).2⟩
        rw [h3, h6]
        exact TrAt.fin _ (tr_end h h2 (by omega)).1
  | fin s h => omega
theorem TrAt.last {cf : Cfg} {key : ByteArray} {sh k q : Nat} {s : Cs} (h : TrAt cf key sh k q s) (hk : ¬ k < cf.tries * cf.pat + 1) : q = cf.tries ∧ s.jobs = [] ∧ s.done = [⟨0, 14, false, false, [], []⟩] := by
  cases h with
  | zero => omega
  | mid d r s h hr hd =>
    have := Nat.mul_le_mul_right cf.pat (show d + 1 ≤ cf.tries by omega)
    rw [Nat.succ_mul] at this
    omega
  | fin s h => exact ⟨rfl, h⟩
end Go.Proofs.YtdiljpdohmeceaaGreat.co
