/- coord: what an answer leaves in memory. -/
import Derived.Test.YtdiljpdohmeceaaGreatHeG
namespace Go.Proofs.YtdiljpdohmeceaaGreat.co
open Go.RowKit H O opk frame wir

theorem fDec_le {b : List Int} : (fDec b).1.length ≤ b.length := by
  unfold fDec
  repeat' split
  all_goals simp only [List.length_nil, List.length_drop, List.length_take]
  all_goals omega
theorem fOne_le {b : List Int} : (fOne b).1.length ≤ b.length := by
  unfold fOne
  split
  · simp
  · exact fDec_le
theorem stRaw_fst {n : Int} {s : Option (List Int)} : (stRaw n s).1.length ≤ (left s).length ∧ (Wf (left s) → Wf (stRaw n s).1) := by
  cases s with
  | none => exact ⟨by simp [stRaw], fun _ => by simp only [stRaw]; exact Wf.nil⟩
  | some l =>
    simp only [stRaw]
    split
    · exact ⟨by simp, fun _ => Wf.nil⟩
    · exact ⟨by simp only [left, Option.getD_some, List.length_take]; omega, fun h => h.take _⟩
theorem stRaw_snd {n : Int} {s : Option (List Int)} : (left (stRaw n s).2).length ≤ (left s).length ∧ (Wf (left s) → Wf (left (stRaw n s).2)) := by
  cases s with
  | none => exact ⟨by simp [stRaw, left], fun _ => by simp [stRaw, left, Wf]⟩
  | some l =>
    simp only [stRaw]
    split
    · exact ⟨by simp [left], fun _ => by simp [left, Wf]⟩
    · exact ⟨by simp only [left, Option.getD_some, List.length_drop]; omega, fun h => h.drop _⟩
theorem stNum_snd {s : Option (List Int)} : (left (stNum s).2).length ≤ (left s).length ∧ (Wf (left s) → Wf (left (stNum s).2)) :=
  ⟨reader.left_le (Nat.le_refl _), stNum_wf⟩
theorem stNums_snd : ∀ (k : Nat) (s : Option (List Int)), (left (stNums k s).2).length ≤ (left s).length ∧ (Wf (left s) → Wf (left (stNums k s).2))
  | 0, s => ⟨Nat.le_refl _, id⟩
  | k + 1, s => by
    have h1 := stNums_snd k (stNum s).2
    have h2 := stNum_snd (s := s)
    exact ⟨Nat.le_trans h1.1 h2.1, fun h => h1.2 (h2.2 h)⟩
theorem stBytes_fst {s : Option (List Int)} : (stBytes s).1.length ≤ (left s).length ∧ (Wf (left s) → Wf (stBytes s).1) := by
  have h1 := stRaw_fst (n := (stNum s).1) (s := (stNum s).2)
  have h2 := stNum_snd (s := s)
  exact ⟨Nat.le_trans h1.1 h2.1, fun h => h1.2 (h2.2 h)⟩
theorem rd3_dat (mark : Int) (most : Nat) (xs : List Int) : (rd3 mark most xs).2.1.length ≤ xs.length ∧ (Wf xs → Wf (rd3 mark most xs).2.1) := by
  unfold rd3
  split
  · exact ⟨by simp, fun _ => Wf.nil⟩
  · split
    · exact ⟨by simp, fun _ => Wf.nil⟩
    · split
      · have h1 := stBytes_fst (s := (stNums 3 (stRaw 1 (some (fOne xs).1)).2).2)
        have h2 := stNums_snd 3 (stRaw 1 (some (fOne xs).1)).2
        have h3 := stRaw_snd (n := 1) (s := some (fOne xs).1)
        have h4 := fOne_le (b := xs)
        refine ⟨?_, fun h => h1.2 (h2.2 (h3.2 (fOne_wf h)))⟩
        refine Nat.le_trans h1.1 (Nat.le_trans h2.1 (Nat.le_trans h3.1 ?_))
        simpa [left] using h4
      · exact ⟨by simp, fun _ => Wf.nil⟩
theorem dWRep_dat (xs : List Int) : (dWRep xs).1.data.length ≤ xs.length ∧ (Wf xs → Wf (dWRep xs).1.data) := by
  unfold dWRep
  split
  · exact ⟨by simp, fun _ => Wf.nil⟩
  · split
    · exact rd3_dat 114 524288 xs
    · exact ⟨by simp, fun _ => Wf.nil⟩

/-- what takes leaves, the row of places named -/
def TkB (p0 m : Nat) (MV : Value) (l : List (ByteArray × Int)) (wk ok : Int) (cid : Nat) (key : ByteArray) (c11 c12 c13 : Value) (t : Took) (w w' : World) (mv' : Value) : Prop :=
  ∃ was has tv text ms, w'.heap[p0]? = some (jobRun m was has tv mv' wk ok cid key c11 c12 c13) ∧ Own 5 .u8 w' w.heap.size tv text ∧ w'.ownsRow 0 73 2 mv' (l ++ ms).length (mv (l ++ ms)) ∧ At w.heap.size MV.ownBlock mv'.ownBlock ∧
    Kp (p0 :: MV.ownBlock.toList) w w' ∧ (t.err = 0 → was = t.was ∧ has = t.has ∧ text = t.text ∧ ms = t.ms) ∧ (wk = 2 → was = false ∧ has = false ∧ tv = .slice none 0 0)
theorem TkP.b {p0 m : Nat} {MV : Value} {l : List (ByteArray × Int)} {wk ok : Int} {cid : Nat} {key : ByteArray} {c11 c12 c13 : Value} {t : Took} {w w' : World} {e : Ending} (h : TkP p0 m MV l wk ok cid key c11 c12 c13 t w e w') :
    ∃ A n c, e = .returned (.int .i64 t.err) ∧ w'.cell? ⟨p0, 13, none⟩ = some c13 ∧ w'.cell? ⟨p0, 5, none⟩ = some (.slice A n c) ∧ TkB p0 m MV l wk ok cid key c11 c12 c13 t w w' (.slice A n c) := by
  obtain ⟨was, has, tv, mv', text, ms, rfl, h1, h2, h3, h4, h5, h6, h7⟩ := h
  obtain ⟨A, c, rfl, _⟩ := own_rd h3
  exact ⟨A, _, c, rfl, blk_cell h1 13 rfl, blk_cell h1 5 rfl, was, has, tv, text, ms, h1, h2, h3, h4, h5, h6, h7⟩

theorem own_ne_type {w : World} {e1 e2 : TypeId} {k1 k2 n1 n2 : Nat} {v1 v2 : Value} {x1 x2 : List Value} (h1 : w.ownsRow 0 e1 k1 v1 n1 x1) (h2 : w.ownsRow 0 e2 k2 v2 n2 x2) (hne : e1 ≠ e2) {g : Nat} (g1 : v1.ownBlock = some g) (g2 : v2.ownBlock = some g) : False := by
  rcases h1.2 with ⟨rfl, _⟩ | ⟨a, _, _, rfl, _, b1, _⟩
  · cases g1
  · rcases h2.2 with ⟨rfl, _⟩ | ⟨b, _, _, rfl, _, b2, _⟩
    · cases g2
    · simp only [Value.ownBlock, Option.some.injEq] at g1 g2
      subst g1 g2
      rw [b1] at b2
      cases b2
      exact hne rfl
/-- the job ends behind takes -/
theorem ends_took {U : List Nat} {w5 w6 w7 : World} {L : Lay} {cf : Cfg} {s : Cs} {κ : Nat → Nat} {VS VW VJ VD MV AV mv' : Value} {l l2 : List (ByteArray × Int)} (h : CoP U w5 L cf s κ VS VW VJ VD MV AV l) {j : Job} {jr : List Job} {p0 : Nat} {ps : List Nat} (hj : s.jobs = j :: jr) (hjs : L.js = p0 :: ps)
    {wk ok : Int} {cid : Nat} {key : ByteArray} {c11 c12 c13 : Value} {t : Took} (T : TkB p0 s.ended MV l wk ok cid key c11 c12 c13 t w5 w6 mv') (k7 : Kp mv'.ownBlock.toList w6 w7) (o7 : w7.ownsRow 0 73 2 mv' l2.length (mv l2)) (hd9 : s.done.length ≤ 1000000) (e : Int) (he : e = 0 → t.err = 0) :
    Calls Tryz.prog 32 #[.pointer (some ⟨L.b, 0, none⟩), .int .i64 e] w7 fun en w' => en = .returned (.tuple #[]) ∧ EndsI U L cf (endJob s (if e = 0 then ⟨s.ended, 0, t.was, t.has, t.text, l2⟩ else ⟨s.ended, e, false, false, [], []⟩)) ps w5 w' := by
  obtain ⟨was, has, tv, text, ms, h1, h2, h3, h4, h5, h6, h7⟩ := T
  have hgm : L.gm = MV.ownBlock := h.mq.2.1.symm
  have hp7 := h.sep.js p0 (by rw [hjs]; simp)
  have s5 := h5.size
  have s7 := k7.size
  have hmb : ∀ g, mv'.ownBlock = some g → L.gm = some g ∨ w5.heap.size ≤ g := fun g e => by
    rcases h4 with e2 | ⟨y, e2, hy⟩
    · left; rw [hgm, ← e2]; exact e
    · rw [e2] at e; cases e; exact .inr hy
  have hSlt : ∀ x ∈ L.b :: L.gw :: (L.gj.toList ++ L.js) ++ U ++ L.gd.toList, x < w5.heap.size ∧ κ x ≠ 6 := by
    intro x hx
    simp only [List.mem_cons, List.mem_append, List.cons_append, Option.mem_toList] at hx
    rcases hx with e | e | ((e | e) | e) | e
    · have := h.sep.b; rw [← e] at this; omega
    · have := h.sep.gw; rw [← e] at this; omega
    · have := h.sep.gj x e; omega
    · have := h.sep.js x e; omega
    · have := h.sep.U x e; omega
    · have := h.sep.gd x e; omega
  have hmS : ∀ g, mv'.ownBlock = some g → g ∉ L.b :: L.gw :: (L.gj.toList ++ L.js) ++ U ++ L.gd.toList := fun g e hm => by
    have := hSlt g hm
    rcases hmb g e with e2 | e2
    · have := h.sep.gm g e2; omega
    · omega
  have hp0 : p0 ∉ mv'.ownBlock.toList := fun hm => by
    rcases hmb p0 (by simpa using hm) with e2 | e2
    · have := h.sep.gm p0 e2; omega
    · omega
  have k57 : Kp (p0 :: L.gm.toList) w5 w7 := by
    rw [hgm]
    refine h5.trans k7 (fun x hx => ?_)
    rcases hmb x (by simpa using hx) with e2 | e2
    · left
      rw [hgm] at e2
      simp [e2]
    · exact .inr e2
  have h27 : Own 5 .u8 w7 w5.heap.size tv text := h2.kp k7 (fun g hg hm => own_ne_type h2.1 h3 (by decide) hg (by simpa using hm))
  have htv : BSl (L.b :: L.gw :: (L.gj.toList ++ L.js) ++ U ++ L.gd.toList) w7 tv text := BSl.own h27 (fun x hx => .inl (hSlt x hx).1)
  have hmv : MSl (L.b :: L.gw :: (L.gj.toList ++ L.js) ++ U ++ L.gd.toList) w7 mv' l2 := MSl.own o7 hmS
  have hb7 := k7.blk h1 hp0
  unfold jobRun at hb7
  have := ends_any U w5 w7 L cf s κ VS VW VJ VD MV AV l j jr p0 ps h hj hjs k57 was has tv mv' _ _ _ _ _ _ _ _ text l2 e hb7 htv hmv hd9
  refine this.mono ?_
  rintro en w' ⟨rfl, q⟩
  refine ⟨rfl, ?_⟩
  rw [resOf] at q
  by_cases e0 : e = 0
  · rw [if_pos e0] at q ⊢
    obtain ⟨rfl, rfl, rfl, _⟩ := h6 (he e0)
    exact q
  · rw [if_neg e0] at q ⊢
    exact q
end Go.Proofs.YtdiljpdohmeceaaGreat.co
