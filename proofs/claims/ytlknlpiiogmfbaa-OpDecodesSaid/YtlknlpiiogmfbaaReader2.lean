/- octet.Reader: Raw, Bytes, Nums. -/
import Derived.Test.YtlknlpiiogmfbaaReader
namespace Go.Proofs.Ytlknlpiiogmfbaa.reader
open Go.RowKit H O

set_option maxHeartbeats 4000000 in
theorem raw_any (b : Nat) (g : Option Nat) (s : Option (List Int)) (n : Int) (w : World) (hR : Rdr w b g s) (hb : (left s).length ≤ 70368744177664) :
    Calls Try.prog 78 #[.pointer (some ⟨b, 0, none⟩), .int .i64 n] w (RawPost b g (stRaw n s) w) := by
  have HBAD := As.mk (bad_any b g s w hR)
  have HRR := As.mk hR
  obtain ⟨A, c, hb0, rfl, hr, hl, hm, hn, hne, hw⟩ := hR
  obtain ⟨len, hlen⟩ : ∃ len, (left s).length = len := ⟨_, rfl⟩
  rw [hlen] at hb0 hl hb
  have c0 := blk_cell hb0 0 rfl
  have HB := As.mk hb0
  have HR := As.mk hr
  have HW := As.mk hw
  have HL := As.mk hlen
  have HN := As.mk hn
  have HE := As.mk hne
  clear hb0 hr hn hne hw hlen
  by_cases h0 : n < 0
  · have HS := As.mk (stRaw_bad (s := s) (.inl h0))
    go_enter Try.func78, Try.ntmps78
    go_wp2_with (go_at_call 64; refine HBAD.out.mono ?_; rintro e w1 HP; obtain rfl := HP.1; have HPA := As.mk HP; clear HP)
    go_ret
    rw [HS.out]
    exact ⟨_, rfl, Own.nil _ _ _ _, HPA.out.2⟩
  · by_cases h1 : (len : Int) < n
    · have HS := As.mk (stRaw_bad (s := s) (n := n) (.inr (by rw [HL.out]; exact h1)))
      go_enter Try.func78, Try.ntmps78
      go_wp2_with (go_at_call 64; refine HBAD.out.mono ?_; rintro e w1 HP; obtain rfl := HP.1; have HPA := As.mk HP; clear HP)
      go_ret
      rw [HS.out]
      exact ⟨_, rfl, Own.nil _ _ _ _, HPA.out.2⟩
    · obtain ⟨m, rfl⟩ := Int.eq_ofNat_of_zero_le (by omega : 0 ≤ n)
      have hml : m ≤ len := by omega
      clear h0 h1
      have HS := As.mk (stRaw_good (s := s) (m := m) (by rw [HL.out]; exact hml))
      cases A with
      | none =>
        have hc := HN.out rfl
        subst hc
        obtain rfl : len = 0 := by omega
        obtain rfl : m = 0 := by omega
        have HC := As.mk (clone.clone_any none 0 0 ((left s).take 0) w (by simp) (by simpa [iv] using Rd.nil w none) (by simp) (by omega))
        go_enter Try.func78, Try.ntmps78
        go_wp2_with (go_at_call 52; refine HC.out.mono ?_; rintro e w1 ⟨v, rfl, ho, hk⟩; have hb1 := hk.blk HB.out (by simp); have c01 := blk_cell hb1 0 rfl; have f01 := blk_free hb1 0; have HO := As.mk ho; have HK := As.mk hk; have HB1 := As.mk hb1; clear ho hk hb1)
        go_ret
        rw [HS.out]
        exact raw_nil HRR.out HL.out HB1.out HO.out HK.out
      | some a =>
        have HC := As.mk (clone.clone_any (some a) m c ((left s).take m) w (by rw [List.length_take, HL.out]; omega) (by rw [← iv_take]; exact HR.out.take _) (by simp) (by omega))
        go_enter Try.func78, Try.ntmps78
        go_wp2_with (go_at_call 52; refine HC.out.mono ?_; rintro e w1 ⟨v, rfl, ho, hk⟩; have hb1 := hk.blk HB.out (by simp); have c01 := blk_cell hb1 0 rfl; have f01 := blk_free hb1 0; have HO := As.mk ho; have HK := As.mk hk; have HB1 := As.mk hb1; clear ho hk hb1)
        all_goals go_ret
        all_goals rw [HS.out]
        · exact raw_ok HRR.out HL.out HB1.out HO.out HK.out (a' := a) (by rw [← iv_drop, List.drop_of_length_le (by rw [iv_len, HL.out]; omega)]; exact Rd.nil _ _) rfl (by omega) (by omega)
        · exact raw_ok HRR.out HL.out HB1.out HO.out HK.out (a' := a.add m) (by rw [← iv_drop]; exact HR.out.drop _) (add_block _ _) (by omega) (by omega)


/-- Bytes -/
theorem bytes_any (b : Nat) (g : Option Nat) (s : Option (List Int)) (w : World) (hR : Rdr w b g s) (hb : (left s).length ≤ 70368744177664) :
    Calls Try.prog 70 #[.pointer (some ⟨b, 0, none⟩)] w (RawPost b g (stBytes s) w) := by
  have HN := As.mk (num_any b g s w hR hb)
  have HL := As.mk (left_le hb)
  clear hR
  go_enter Try.func70, Try.ntmps70
  go_wp2_with (first
    | (go_at_call 66; refine HN.out.mono ?_; rintro e w1 HP; obtain rfl := HP.1; obtain ⟨_, g1, R1, G1, K1⟩ := HP; have HG1 := As.mk G1; have HK1 := As.mk K1; have HRW := As.mk (raw_any b g1 (stNum s).2 ((stNum s).1 : Int) w1 R1 HL.out); clear R1 G1 K1)
    | (go_at_call 78; refine HRW.out.mono ?_; rintro e w2 ⟨v, rfl, O2, g2, R2, G2, K2⟩; have HP2 := As.mk (And.intro O2 (And.intro R2 (And.intro G2 K2))); clear O2 R2 G2 K2))
  go_ret
  obtain ⟨O2, R2, G2, K2⟩ := HP2.out
  refine ⟨v, rfl, O2.lower HK1.out.size, g2, R2, ?_, HK1.out.trans K2 (fun x hx => .inl hx)⟩
  rcases G2 with rfl | rfl
  · exact HG1.out
  · exact .inr rfl

/-! Nums: a number into each place. -/
def put1 (w : World) (p : Option Addr) (v : Int) : World :=
  match p with
  | none => w
  | some a => w.setCell a (.int .i64 v)
def putAll (w : World) : List (Option Addr × Int) → World
  | [] => w
  | x :: r => putAll (put1 w x.1 x.2) r
theorem putAll_snoc (w : World) (l : List (Option Addr × Int)) (x : Option Addr × Int) : putAll w (l ++ [x]) = put1 (putAll w l) x.1 x.2 := by
  induction l generalizing w with
  | nil => rfl
  | cons y l ih => simp only [List.cons_append, putAll]; exact ih _
theorem put1_size (w : World) (p : Option Addr) (v : Int) : (put1 w p v).heap.size = w.heap.size := by cases p <;> simp [put1]
theorem putAll_size (w : World) (l : List (Option Addr × Int)) : (putAll w l).heap.size = w.heap.size := by
  induction l generalizing w with
  | nil => rfl
  | cons y l ih => rw [putAll, ih, put1_size]
/-- A place of an int. -/
def IsInt (w : World) (a : Addr) : Prop := (∃ x, w.cell? a = some (.int .i64 x)) ∧ w.frozen? a = false
theorem put1_isInt {w : World} {a : Addr} (h : IsInt w a) (p : Option Addr) (v : Int) : IsInt (put1 w p v) a := by
  cases p with
  | none => exact h
  | some q =>
    obtain ⟨⟨x, hx⟩, hf⟩ := h
    refine ⟨?_, by simpa [put1] using hf⟩
    by_cases e : q = a
    · subst e
      exact ⟨v, World.cell?_setCell_same _ _ _ hx⟩
    · exact ⟨x, by simp only [put1]; rw [World.cell?_setCell_other _ _ _ _ e]; exact hx⟩
theorem putAll_isInt {w : World} {a : Addr} (h : IsInt w a) (l : List (Option Addr × Int)) : IsInt (putAll w l) a := by
  induction l generalizing w with
  | nil => exact h
  | cons y l ih => exact ih (put1_isInt h _ _)
theorem put1_far (w : World) (p : Option Addr) (v : Int) (k : Nat) (h : ∀ a, p = some a → a.block ≠ k) : (put1 w p v).heap[k]? = w.heap[k]? := by
  cases p with
  | none => rfl
  | some a => exact heap_setCell_other _ _ _ _ (fun e => h a rfl e.symm)
theorem putAll_far (w : World) (l : List (Option Addr × Int)) (k : Nat) (h : ∀ x ∈ l, ∀ a, x.1 = some a → a.block ≠ k) : (putAll w l).heap[k]? = w.heap[k]? := by
  induction l generalizing w with
  | nil => rfl
  | cons y l ih => rw [putAll, ih _ (fun x hx => h x (by simp [hx])), put1_far _ _ _ _ (h y (by simp))]

theorem stNums_len (k : Nat) (s : Option (List Int)) : (stNums k s).1.length = k := by
  induction k generalizing s with
  | zero => rfl
  | succ k ih => simp only [stNums, List.length_cons, ih]
theorem stNums_snoc (k : Nat) (s : Option (List Int)) : stNums (k + 1) s = ((stNums k s).1 ++ [((stNum (stNums k s).2).1 : Int)], (stNum (stNums k s).2).2) := by
  induction k generalizing s with
  | zero => rfl
  | succ k ih =>
    have h1 : stNums (k + 1 + 1) s = (((stNum s).1 : Int) :: (stNums (k + 1) (stNum s).2).1, (stNums (k + 1) (stNum s).2).2) := rfl
    have h2 : stNums (k + 1) s = (((stNum s).1 : Int) :: (stNums k (stNum s).2).1, (stNums k (stNum s).2).2) := rfl
    rw [h1, ih, h2]
    rfl
theorem stNums_left {k m : Nat} {s : Option (List Int)} (h : (left s).length ≤ m) : (left (stNums k s).2).length ≤ m := by
  induction k with
  | zero => exact h
  | succ k ih => rw [stNums_snoc]; exact left_le ih

/-- The world behind Nums: all blocks but the Reader's own are as the stores leave them. -/
def NumsPost (b : Nat) (g : Option Nat) (ps : List (Option Addr)) (s : Option (List Int)) (w : World) (e : Ending) (w' : World) : Prop :=
  e = .returned (.tuple #[]) ∧ (∃ g', Rdr w' b g' (stNums ps.length s).2 ∧ (g' = g ∨ g' = none)) ∧ w'.os = w.os ∧ w'.tape = w.tape ∧ w'.output = w.output ∧ w.heap.size ≤ w'.heap.size ∧
    ∀ k, k < w.heap.size → k ≠ b → w'.heap[k]? = (putAll w (ps.zip (stNums ps.length s).1)).heap[k]?

theorem NumsPost.step {b : Nat} {g g1 : Option Nat} {ps : List (Option Addr)} {p : Option Addr} {s : Option (List Int)} {w wr w1 : World} (h : NumsPost b g ps s w (.returned (.tuple #[])) wr)
    (hR : Rdr w1 b g1 (stNum (stNums ps.length s).2).2) (hg : g1 = g ∨ g1 = none) (hk : Kp [b] wr w1) (hp : ∀ a, p = some a → a.block ≠ b ∧ g ≠ some a.block) :
    NumsPost b g (ps ++ [p]) s w (.returned (.tuple #[])) (put1 w1 p ((stNum (stNums ps.length s).2).1 : Int)) := by
  obtain ⟨_, _, h1, h2, h3, h4, h5⟩ := h
  have hkp : Kp (p.map Addr.block).toList w1 (put1 w1 p ((stNum (stNums ps.length s).2).1 : Int)) := by
    cases p with
    | none => exact Kp.refl _ _
    | some a => exact (Kp.refl _ _).setCell (.inl (by simp)) _
  have hz : (ps ++ [p]).zip (stNums (ps ++ [p]).length s).1 = ps.zip (stNums ps.length s).1 ++ [(p, ((stNum (stNums ps.length s).2).1 : Int))] := by
    rw [List.length_append, List.length_singleton, stNums_snoc, List.zip_append (by rw [stNums_len])]
    rfl
  refine ⟨rfl, ⟨g1, ?_, hg⟩, (hkp.os.trans hk.os).trans h1, (hkp.tape.trans hk.tape).trans h2, (hkp.output.trans hk.output).trans h3, by rw [put1_size]; have := hk.size; omega, ?_⟩
  · rw [List.length_append, List.length_singleton, stNums_snoc]
    refine hR.kp hkp ?_ ?_
    · intro hm
      cases p with
      | none => simp at hm
      | some a => exact (hp a rfl).1 (by have h9 : b = a.block := by simpa using hm
                                         exact h9.symm)
    · intro x hx hm
      cases p with
      | none => simp at hm
      | some a =>
        have hxa : x = a.block := by simpa using hm
        rcases hg with rfl | rfl
        · exact (hp a rfl).2 (by rw [hx, hxa])
        · cases hx
  · intro k hk1 hk2
    rw [hz, putAll_snoc]
    by_cases e : ∃ a, p = some a ∧ a.block = k
    · obtain ⟨a, rfl, rfl⟩ := e
      have e1 : w1.heap[a.block]? = (putAll w (ps.zip (stNums ps.length s).1)).heap[a.block]? := (hk.block _ (by omega) (by simpa using hk2)).trans (h5 _ hk1 hk2)
      simp only [put1, World.setCell, Array.getElem?_modify, e1]
    · rw [put1_far _ _ _ _ (fun a ha hb => e ⟨a, ha, hb⟩), put1_far _ _ _ _ (fun a ha hb => e ⟨a, ha, hb⟩)]
      exact (hk.block _ (by omega) (by simpa using hk2)).trans (h5 _ hk1 hk2)

theorem isInt_of_block {w w' : World} {a : Addr} (h : IsInt w a) (he : w'.heap[a.block]? = w.heap[a.block]?) : IsInt w' a := by
  obtain ⟨⟨x, hx⟩, hf⟩ := h
  exact ⟨⟨x, (World.cell?_of_block he).trans hx⟩, (World.frozen?_of_block he).trans hf⟩
theorem IsInt.lt {w : World} {a : Addr} (h : IsInt w a) : a.block < w.heap.size := by
  obtain ⟨⟨x, hx⟩, _⟩ := h
  exact World.block_lt_of_cell? w _ hx
theorem mem_zip_take {ps : List (Option Addr)} {k : Nat} {vs : List Int} {x : Option Addr × Int} (h : x ∈ (ps.take k).zip vs) : x.1 ∈ ps := List.mem_of_mem_take (List.of_mem_zip (a := x.1) (b := x.2) h).1
/-- What a round of Nums finds. -/
theorem NumsPost.place {b : Nat} {g : Option Nat} {ps : List (Option Addr)} {s : Option (List Int)} {w wr : World} {k : Nat} (h : NumsPost b g (ps.take k) s w (.returned (.tuple #[])) wr)
    (hp : ∀ p ∈ ps, ∀ q, p = some q → q.block ≠ b ∧ g ≠ some q.block ∧ IsInt w q) {q : Addr} (hq : some q ∈ ps) : IsInt wr q := by
  obtain ⟨_, _, _, _, _, _, h5⟩ := h
  obtain ⟨h1, _, h3⟩ := hp _ hq q rfl
  exact isInt_of_block (putAll_isInt h3 _) (h5 _ h3.lt h1)
theorem NumsPost.at {b : Nat} {g : Option Nat} {ps : List (Option Addr)} {s : Option (List Int)} {w wr : World} {k : Nat} (h : NumsPost b g (ps.take k) s w (.returned (.tuple #[])) wr)
    {a : Addr} (ha : a.block ≠ b) (hA : ∀ p ∈ ps, ∀ q, p = some q → q.block ≠ a.block) {v : Value} (hc : w.cell? a = some v) : wr.cell? a = some v := by
  obtain ⟨_, _, _, _, _, _, h5⟩ := h
  refine (World.cell?_of_block ((h5 _ (World.block_lt_of_cell? w _ hc) ha).trans (putAll_far _ _ _ ?_))).trans hc
  intro x hx q hq
  exact hA _ (mem_zip_take hx) q hq

set_option maxHeartbeats 4000000 in
theorem nums_any (b : Nat) (g : Option Nat) (s : Option (List Int)) (A : Option Addr) (n c : Nat) (ps : List (Option Addr)) (w : World) (hR : Rdr w b g s) (hb : (left s).length ≤ 70368744177664)
    (hn : ps.length = n) (hm : n ≤ 4611686018427387904) (hr : Rd w A (ps.map Value.pointer)) (hA : ∀ a, A = some a → a.block ≠ b ∧ ∀ p ∈ ps, ∀ q, p = some q → q.block ≠ a.block)
    (hp : ∀ p ∈ ps, ∀ q, p = some q → q.block ≠ b ∧ g ≠ some q.block ∧ IsInt w q) :
    Calls Try.prog 63 #[.pointer (some ⟨b, 0, none⟩), .slice A n c] w (NumsPost b g ps s w) := by
  subst hn
  have HR := As.mk hr
  have HA := As.mk hA
  have HP := As.mk hp
  have H0 : As (NumsPost b g (ps.take 0) s w (.returned (.tuple #[])) w) := ⟨rfl, ⟨g, hR, .inl rfl⟩, rfl, rfl, rfl, Nat.le_refl _, fun _ _ _ => rfl⟩
  clear hr hA hp hR
  go_enter Try.func63, Try.ntmps63
  go_wp2
  go_loopw [9] (fun i wr => ∃ k : Nat, i = .int .i64 (k : Int) ∧ k ≤ ps.length ∧ As (NumsPost b g (ps.take k) s w (.returned (.tuple #[])) wr)) (fun i _ => ps.length - (intOf i).toNat)
  case atStart => exact ⟨0, rfl, by omega, H0⟩
  case round =>
    obtain ⟨k, rfl, hk, HN⟩ := hrel
    by_cases hlt : k < ps.length
    · obtain ⟨a, rfl, d0⟩ := HR.out k (.pointer ps[k]) (by simp [hlt])
      obtain ⟨hab, haq⟩ := HA.out a rfl
      have d1 := NumsPost.at HN.out (a := a.add k) (by rw [add_block]; exact hab) (by rw [add_block]; exact haq) d0
      clear d0 hab haq
      obtain ⟨_, ⟨g1, R1, G1⟩, _⟩ := HN.out
      have hlk : (ps.take k).length = k := by rw [List.length_take]; omega
      have HC := As.mk (num_any b g1 _ wr R1 (stNums_left hb))
      have HG1 := As.mk G1
      have HLK := As.mk hlk
      clear R1 G1 hlk
      have hmem : ps[k] ∈ ps := List.getElem_mem hlt
      obtain ⟨p, hpe⟩ : ∃ p, p = ps[k] := ⟨_, rfl⟩
      rw [← hpe] at d1 hmem
      have HM := As.mk hmem
      have HPE := As.mk hpe
      clear hmem hpe
      have HQ : As (∀ a, p = some a → a.block ≠ b ∧ g ≠ some a.block) := ⟨fun a ha => ⟨(HP.out p HM.out a ha).1, (HP.out p HM.out a ha).2.1⟩⟩
      have HT : As (ps.take (k + 1) = ps.take k ++ [p]) := ⟨by rw [HPE.out]; exact take_succ' ps k hlt⟩
      have HLT := As.mk hlt
      cases p with
      | none =>
        go_wp2_with (go_at_call 66; refine HC.out.mono ?_; rintro e w1 HP1; obtain rfl := HP1.1; obtain ⟨_, g2, R2, G2, K2⟩ := HP1; have HNX := As.mk (NumsPost.step HN.out R2 (by rcases G2 with rfl | rfl; exact HG1.out; exact .inr rfl) K2 HQ.out); clear R2 G2 K2)
        go_roundw
        case rel => exact ⟨k + 1, by go_num, by omega, ⟨by rw [HT.out]; exact HNX.out⟩⟩
        case measure => simp [intOf]; omega
      | some q =>
        have HI := As.mk (NumsPost.place HN.out HP.out HM.out)
        go_wp2_with (go_at_call 66; refine HC.out.mono ?_; rintro e w1 HP1; obtain rfl := HP1.1; obtain ⟨_, g2, R2, G2, K2⟩ := HP1; have HNX := As.mk (NumsPost.step HN.out R2 (by rcases G2 with rfl | rfl; exact HG1.out; exact .inr rfl) K2 HQ.out); obtain ⟨⟨x1, hx1⟩, hf1⟩ := isInt_of_block HI.out (K2.block _ HI.out.lt (by simpa using (HQ.out q rfl).1)); clear R2 G2 K2)
        go_roundw
        case rel => exact ⟨k + 1, by go_num, by omega, ⟨by rw [HT.out]; have h9 := HNX.out; rw [HLK.out] at h9; exact h9⟩⟩
        case measure => simp [intOf]; omega
    · go_wp2
      go_end0
      have : ps.take k = ps := List.take_of_length_le (by omega)
      rw [this] at HN
      exact HN.out

end Go.Proofs.Ytlknlpiiogmfbaa.reader
