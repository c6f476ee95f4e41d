/- Both Manifests side by side: what each call leaves of both. -/
import Derived.Test.YtiabdeciadfiiaaManW
namespace Go.Proofs.Ytiabdeciadfiiaa.haystacklaw21
open Go.RowKit H O opk man mref

/-- the program's Manifest in block b (its shards' row in block g), the document's in block bx -/
structure PJ (w : World) (b bx : Nat) (g : Option Nat) (vm : Nat) (sm : List (List Int)) (dm : Int) (vx : Nat) (sx : List (List Int)) (dx : Int) (wr : World) : Prop where
  kp : Kp [] w wr
  m : MSt [bx] w.heap.size b g vm sm dm wr
  x : RSt (b :: g.toList) bx vx sx dx wr
  okm : MapOk vm sm
  okx : MapOk vx sx
  lo : w.heap.size ≤ b ∧ w.heap.size ≤ bx ∧ b ≠ bx
/-- the blocks that may turn -/
def SX (b bx : Nat) (g : Option Nat) : List Nat := bx :: b :: g.toList
theorem PJ.glo {w : World} {b bx : Nat} {g : Option Nat} {vm : Nat} {sm : List (List Int)} {dm : Int} {vx : Nat} {sx : List (List Int)} {dx : Int} {wr : World} (h : PJ w b bx g vm sm dm vx sx dx wr) : ∀ x ∈ SX b bx g, w.heap.size ≤ x ∧ x < wr.heap.size := by
  have hl := h.m.lt
  intro x hx
  rcases List.mem_cons.1 hx with rfl | hx
  · exact ⟨h.lo.2.1, h.x.lt⟩
  · rcases List.mem_cons.1 hx with rfl | hx
    · exact ⟨h.lo.1, hl.1⟩
    · have hg : g = some x := by simpa using hx
      refine ⟨?_, hl.2 x hg⟩
      obtain ⟨_, _, _, hga, o9⟩ := h.m.blk
      obtain ⟨_, _, hv, _, _, _, h9⟩ := o9.form
      cases hv
      rw [hg] at hga
      obtain ⟨a, ha, hab⟩ := Option.map_eq_some_iff.1 hga
      have := (h9 a ha).1
      omega
theorem PJ.keep {w : World} {b bx : Nat} {g : Option Nat} {vm : Nat} {sm : List (List Int)} {dm : Int} {vx : Nat} {sx : List (List Int)} {dx : Int} {wr w1 : World} (h : PJ w b bx g vm sm dm vx sx dx wr) (k : Kp [] wr w1) : PJ w b bx g vm sm dm vx sx dx w1 :=
  ⟨h.kp.trans k (by simp), h.m.kp k (by simp), h.x.kp k (by simp) (fun x hx => .inl hx), h.okm, h.okx, h.lo⟩
/-- an input's bytes are none of the two's -/
theorem PJ.inp {w : World} {b bx : Nat} {g : Option Nat} {vm : Nat} {sm : List (List Int)} {dm : Int} {vx : Nat} {sx : List (List Int)} {dx : Int} {wr : World} (h : PJ w b bx g vm sm dm vx sx dx wr) {A : Option Addr} {vs : List Value} (hr : Rd w A vs) : RdS (SX b bx g) wr A vs := by
  refine RdS.new hr h.kp (fun x hx => (h.glo x hx).1)
/-- what is newly made is none of the two's -/
theorem PJ.fresh {w : World} {b bx : Nat} {g : Option Nat} {vm : Nat} {sm : List (List Int)} {dm : Int} {vx : Nat} {sx : List (List Int)} {dx : Int} {wr w1 : World} (h : PJ w b bx g vm sm dm vx sx dx wr) {e : TypeId} {k : IntKind} {A : Option Addr} {n c : Nat} {xs : List Int} (o : Own e k w1 wr.heap.size (.slice A n c) xs) : RdS (SX b bx g) w1 A (iv k xs) := by
  obtain ⟨_, _, hv, _, _, r, _⟩ := own_rd o.1
  cases hv
  intro j v hv
  obtain ⟨a, ha, hc⟩ := r j v hv
  refine ⟨a, ha, fun hm => ?_, hc⟩
  have h1 := (h.glo _ hm).2
  have h2 := o.2 a.block (by rw [ha]; rfl)
  omega
/-- a call of the program's -/
theorem PJ.mstep {w : World} {b bx : Nat} {g g2 : Option Nat} {vm v2 : Nat} {sm s2 : List (List Int)} {dm d2 : Int} {vx : Nat} {sx : List (List Int)} {dx : Int} {wr w1 : World} (h : PJ w b bx g vm sm dm vx sx dx wr) (hs : MSt [bx] w.heap.size b g2 v2 s2 d2 w1) (a2 : AtN wr.heap.size g g2) (k2 : Kp (b :: g.toList) wr w1) (ok2 : MapOk v2 s2) :
    PJ w b bx g2 v2 s2 d2 vx sx dx w1 ∧ ∀ A vs, RdS (SX b bx g) wr A vs → RdS (SX b bx g2) w1 A vs := by
  have hgl := h.glo
  have hS : ∀ x ∈ SX b bx g2, x ∈ SX b bx g ∨ wr.heap.size ≤ x := by
    intro x hx
    rcases List.mem_cons.1 hx with rfl | hx
    · exact .inl (by simp [SX])
    · rcases List.mem_cons.1 hx with rfl | hx
      · exact .inl (by simp [SX])
      · rcases a2 x (by simpa using hx) with e | e
        · exact .inl (by simp [SX, e])
        · exact .inr e
  have hne : ∀ x ∈ b :: g.toList, x ≠ bx := by
    intro x hx e
    rcases List.mem_cons.1 hx with rfl | hx
    · exact h.lo.2.2 e
    · exact h.m.apart bx (by simp) (by rw [← e]; simpa using hx)
  refine ⟨⟨h.kp.trans k2 (fun x hx => .inr ?_), hs, h.x.kp k2 (fun x hx => .inl ⟨hx, hne x hx⟩) ?_, ok2, h.okx, h.lo⟩, fun A vs hr => hr.kp2 k2 ?_ hS⟩
  · have := (hgl x (by rw [SX]; simp only [List.mem_cons] at hx ⊢; rcases hx with e | e; exact .inr (.inl e); exact .inr (.inr e))).1
    exact this
  · intro x hx
    rcases List.mem_cons.1 hx with rfl | hx
    · exact .inl (by simp)
    · rcases a2 x (by simpa using hx) with e | e
      · exact .inl (by simp [e])
      · exact .inr e
  · intro x hx
    exact .inl (by rw [SX]; simp only [List.mem_cons] at hx ⊢; rcases hx with e | e; exact .inr (.inl e); exact .inr (.inr e))
/-- a call of the document's -/
theorem PJ.xstep {w : World} {b bx : Nat} {g : Option Nat} {vm v2 : Nat} {sm s2 : List (List Int)} {dm d2 : Int} {vx : Nat} {sx : List (List Int)} {dx : Int} {wr w1 : World} (h : PJ w b bx g vm sm dm vx sx dx wr) (hs : RSt (b :: g.toList) bx v2 s2 d2 w1) (k2 : Kp [bx] wr w1) (ok2 : MapOk v2 s2) :
    PJ w b bx g vm sm dm v2 s2 d2 w1 ∧ ∀ A vs, RdS (SX b bx g) wr A vs → RdS (SX b bx g) w1 A vs := by
  have hl := h.lo
  refine ⟨⟨h.kp.trans k2 (fun x hx => .inr (by simp at hx; omega)), h.m.kp k2 (fun x hx => .inl (by simp at hx; exact ⟨by simp [hx], by omega⟩)), hs, h.okm, ok2, h.lo⟩, fun A vs hr => hr.kp k2 (fun x hx => .inl (by simp at hx; simp [SX, hx]))⟩

/-- bytes that are handed in -/
structure In (S : List Nat) (wr : World) (A : Option Addr) (n c : Nat) (xs : List Int) : Prop where
  len : xs.length = n
  rd : RdS S wr A (iv .u8 xs)
  cap : n ≤ c ∧ c ≤ 9223372036854775807 ∧ (A = none → c = 0)
  small : n ≤ 140737488351232
  wf : Wf xs
theorem In.at {S : List Nat} {wr : World} {A : Option Addr} {n c : Nat} {xs : List Int} (h : In S wr A n c xs) : (∀ a, A = some a → a.block < wr.heap.size ∧ a.block ∉ S) ∨ n = 0 := by
  by_cases h0 : n = 0
  · exact .inr h0
  · left
    intro a ha
    have hl : 0 < (iv .u8 xs).length := by rw [iv_len, h.len]; omega
    obtain ⟨a', ha', hS, hc⟩ := h.rd 0 (iv .u8 xs)[0] (by simp)
    rw [ha] at ha'
    cases ha'
    have := World.block_lt_of_cell? wr _ hc
    rw [add_block] at this
    exact ⟨this, hS⟩
theorem In.to {S S2 : List Nat} {wr w1 : World} {A : Option Addr} {n c : Nat} {xs : List Int} (h : In S wr A n c xs) (hr : RdS S2 w1 A (iv .u8 xs)) : In S2 w1 A n c xs := ⟨h.len, hr, h.cap, h.small, h.wf⟩
/-- an empty slice, wherever it points -/
theorem In.addr {S : List Nat} {wr : World} {A : Option Addr} {n c : Nat} {xs : List Int} (h : In S wr A n c xs) (hn : n ≠ 0) {x : Nat} (hx : x ∈ S) : ∀ a, A = some a → a.block ≠ x := by
  intro a ha e
  rcases h.at with h1 | h1
  · exact (h1 a ha).2 (by rw [e]; exact hx)
  · exact hn h1

/-- Apply of the program's -/
theorem PJ.mapply {w : World} {b bx : Nat} {g : Option Nat} {vm : Nat} {sm : List (List Int)} {dm : Int} {vx : Nat} {sx : List (List Int)} {dx : Int} {wr : World} (h : PJ w b bx g vm sm dm vx sx dx wr) (hd : 0 ≤ dm ∧ dm ≤ 1000000) (idx : Int) {A : Option Addr} {n c : Nat} {xs : List Int} (hi : In (SX b bx g) wr A n c xs) {m : Nat} (hm : (mApply vm sm dm idx xs).2.length = m) :
    Calls Try.prog 12 #[.pointer (some ⟨b, 0, none⟩), .int .i64 idx, .slice A n c] wr fun e w' => ∃ A2 c2 g2, e = .returned (.slice A2 m c2) ∧ RdS [bx] w' A2 (iv .u8 (mApply vm sm dm idx xs).2) ∧
      PJ w b bx g2 (mApply vm sm dm idx xs).1.1 (mApply vm sm dm idx xs).1.2.1 (mApply vm sm dm idx xs).1.2.2 vx sx dx w' ∧ ∀ A vs, RdS (SX b bx g) wr A vs → RdS (SX b bx g2) w' A vs := by
  have h0 : (∀ a, A = some a → a.block ≠ b) ∨ n = 0 := by
    by_cases hn : n = 0
    · exact .inr hn
    · exact .inl (hi.addr hn (by simp [SX]))
  have hok : MapOk (mApply vm sm dm idx xs).1.1 (mApply vm sm dm idx xs).1.2.1 := by
    unfold mApply
    split
    · exact mDo_ok hi.wf h.okm
    · exact h.okm
  refine (man.apply_gen [bx] w.heap.size b g vm sm dm idx A n c xs wr h.m h.okm h.kp.size (by intro x hx; simp at hx; have := h.x.lt; omega) hd hi.len h0 hi.rd.rd hi.cap.2.2 hi.small hi.wf).mono ?_
  rintro e w' ⟨v, g2, rfl, o, s2, a2, k2⟩
  obtain ⟨h2, hr2⟩ := h.mstep s2 a2 k2 hok
  obtain ⟨A2, c2, rfl, _, _, _, _⟩ := own_rd o.1
  have hf := o.rds (S := [bx]) (by intro x hx; simp at hx; have := h.x.lt; omega)
  rw [hm]
  exact ⟨A2, c2, g2, rfl, hf, h2, hr2⟩
/-- Apply of the document's -/
theorem PJ.xapply {w : World} {b bx : Nat} {g : Option Nat} {vm : Nat} {sm : List (List Int)} {dm : Int} {vx : Nat} {sx : List (List Int)} {dx : Int} {wr : World} (h : PJ w b bx g vm sm dm vx sx dx wr) (hd : 0 ≤ dx ∧ dx ≤ 1000000) (idx : Int) {A : Option Addr} {n c : Nat} {xs : List Int} (hi : In (SX b bx g) wr A n c xs) {m : Nat} (hm : (mApply vx sx dx idx xs).2.length = m) :
    Calls Try.prog 33 #[.pointer (some ⟨bx, 0, none⟩), .int .i64 idx, .slice A n c] wr fun e w' => ∃ A2 c2, e = .returned (.slice A2 m c2) ∧ Rd w' A2 (iv .u8 (mApply vx sx dx idx xs).2) ∧
      PJ w b bx g vm sm dm (mApply vx sx dx idx xs).1.1 (mApply vx sx dx idx xs).1.2.1 (mApply vx sx dx idx xs).1.2.2 w' ∧ Kp [bx] wr w' ∧ ∀ A vs, RdS (SX b bx g) wr A vs → RdS (SX b bx g) w' A vs := by
  have h0 : (∀ a, A = some a → a.block ≠ bx) ∨ n = 0 := by
    by_cases hn : n = 0
    · exact .inr hn
    · exact .inl (hi.addr hn (by simp [SX]))
  have hok : MapOk (mApply vx sx dx idx xs).1.1 (mApply vx sx dx idx xs).1.2.1 := by
    unfold mApply
    split
    · exact mDo_ok hi.wf h.okx
    · exact h.okx
  have hgl := h.glo
  refine (mref.apply_gen (b :: g.toList) bx vx sx dx idx A n c xs wr h.x h.okx (fun x hx => (hgl x (by rw [SX]; exact List.mem_cons_of_mem _ hx)).2) hd hi.len h0 hi.rd.rd hi.cap.1 hi.cap.2.1 hi.cap.2.2 (hi.at.imp (fun h a ha => (h a ha).1) id) hi.small hi.wf).mono ?_
  rintro e w' ⟨v, rfl, o, s2, k2⟩
  obtain ⟨h2, hr2⟩ := h.xstep s2 k2 hok
  obtain ⟨A2, c2, rfl, _, _, r2, _⟩ := own_rd o.1
  rw [hm]
  exact ⟨A2, c2, rfl, r2, h2, k2, hr2⟩
theorem PJ.mskip {w : World} {b bx : Nat} {g : Option Nat} {vm : Nat} {sm : List (List Int)} {dm : Int} {vx : Nat} {sx : List (List Int)} {dx : Int} {wr : World} (h : PJ w b bx g vm sm dm vx sx dx wr) (hd : 0 ≤ dm ∧ dm ≤ 1000000) (idx : Int) :
    Calls Try.prog 27 #[.pointer (some ⟨b, 0, none⟩), .int .i64 idx] wr fun e w' => e = .returned (.tuple #[]) ∧ PJ w b bx g vm sm (skipD dm idx) vx sx dx w' ∧ ∀ A vs, RdS (SX b bx g) wr A vs → RdS (SX b bx g) w' A vs := by
  refine (man.skip_any [bx] w.heap.size b g vm sm dm idx wr h.m hd).mono ?_
  rintro e w' ⟨rfl, s2, k2⟩
  exact ⟨rfl, h.mstep s2 (AtN.refl _ _) (k2.mono (by intro x hx; simp at hx; simp [hx])) h.okm⟩
theorem PJ.xskip {w : World} {b bx : Nat} {g : Option Nat} {vm : Nat} {sm : List (List Int)} {dm : Int} {vx : Nat} {sx : List (List Int)} {dx : Int} {wr : World} (h : PJ w b bx g vm sm dm vx sx dx wr) (hd : 0 ≤ dx ∧ dx ≤ 1000000) (idx : Int) :
    Calls Try.prog 28 #[.pointer (some ⟨bx, 0, none⟩), .int .i64 idx] wr fun e w' => e = .returned (.tuple #[]) ∧ PJ w b bx g vm sm dm vx sx (skipD dx idx) w' ∧ ∀ A vs, RdS (SX b bx g) wr A vs → RdS (SX b bx g) w' A vs := by
  refine (mref.skip_any (b :: g.toList) bx vx sx dx idx wr h.x hd).mono ?_
  rintro e w' ⟨rfl, s2, k2⟩
  exact ⟨rfl, h.xstep s2 k2 h.okx⟩
theorem instD_ok {ver : Nat} {sh : List (List Int)} {done idx : Int} {xs : List Int} (hw : Wf xs) (h : MapOk ver sh) : MapOk (instD ver sh done idx xs).1 (instD ver sh done idx xs).2.1 := by
  unfold instD
  split
  · exact (mDec_ok hw).1
  · exact h
theorem PJ.minst {w : World} {b bx : Nat} {g : Option Nat} {vm : Nat} {sm : List (List Int)} {dm : Int} {vx : Nat} {sx : List (List Int)} {dx : Int} {wr : World} (h : PJ w b bx g vm sm dm vx sx dx wr) (idx : Int) {A : Option Addr} {n c : Nat} {xs : List Int} (hi : In (SX b bx g) wr A n c xs) :
    Calls Try.prog 29 #[.pointer (some ⟨b, 0, none⟩), .int .i64 idx, .slice A n c] wr fun e w' => ∃ g2, e = .returned (.int .i64 (mDec xs).2.2) ∧
      PJ w b bx g2 (instD vm sm dm idx xs).1 (instD vm sm dm idx xs).2.1 (instD vm sm dm idx xs).2.2 vx sx dx w' ∧ ∀ A vs, RdS (SX b bx g) wr A vs → RdS (SX b bx g2) w' A vs := by
  refine (man.install_any [bx] w.heap.size b g vm sm dm idx A n c xs wr h.m h.kp.size (by intro x hx; simp at hx; have := h.x.lt; omega) hi.len hi.rd.rd hi.cap.2.2 hi.small hi.wf).mono ?_
  rintro e w' ⟨g2, rfl, s2, a2, k2⟩
  exact ⟨g2, rfl, h.mstep s2 a2 k2 (instD_ok hi.wf h.okm)⟩
theorem PJ.xinst {w : World} {b bx : Nat} {g : Option Nat} {vm : Nat} {sm : List (List Int)} {dm : Int} {vx : Nat} {sx : List (List Int)} {dx : Int} {wr : World} (h : PJ w b bx g vm sm dm vx sx dx wr) (idx : Int) {A : Option Addr} {n c : Nat} {xs : List Int} (hi : In (SX b bx g) wr A n c xs) :
    Calls Try.prog 30 #[.pointer (some ⟨bx, 0, none⟩), .int .i64 idx, .slice A n c] wr fun e w' => e = .returned (.int .i64 (mDec xs).2.2) ∧
      PJ w b bx g vm sm dm (instD vx sx dx idx xs).1 (instD vx sx dx idx xs).2.1 (instD vx sx dx idx xs).2.2 w' ∧ ∀ A vs, RdS (SX b bx g) wr A vs → RdS (SX b bx g) w' A vs := by
  have hgl := h.glo
  refine (mref.install_any (b :: g.toList) bx vx sx dx idx A n c xs wr h.x (fun x hx => (hgl x (by rw [SX]; exact List.mem_cons_of_mem _ hx)).2) hi.len hi.rd.rd hi.cap.1 hi.cap.2.1 hi.cap.2.2 (hi.at.imp (fun h a ha => (h a ha).1) id) hi.small hi.wf).mono ?_
  rintro e w' ⟨rfl, s2, k2⟩
  exact ⟨rfl, h.xstep s2 k2 (instD_ok hi.wf h.okx)⟩
/-- bytes newly made, as bytes handed in -/
theorem PJ.newIn {w : World} {b bx : Nat} {g : Option Nat} {vm : Nat} {sm : List (List Int)} {dm : Int} {vx : Nat} {sx : List (List Int)} {dx : Int} {wr w1 : World} (h : PJ w b bx g vm sm dm vx sx dx wr) {v : Value} {xs : List Int} {m : Nat} (hm : xs.length = m) (o : Own 5 .u8 w1 wr.heap.size v xs) (hs : m ≤ 140737488351232) (hw : Wf xs) :
    ∃ A c, v = .slice A m c ∧ In (SX b bx g) w1 A m c xs := by
  obtain ⟨A, c, rfl, h1, h2, _, h3⟩ := own_rd o.1
  rw [hm] at o h1 ⊢
  exact ⟨A, c, rfl, hm, h.fresh o, ⟨h1, h2, h3⟩, hs, hw⟩
theorem mapB_wf (v : Int) (l : List (List Int)) : Wf (mapB v l) := fun x hx => by
  rcases List.mem_append.1 hx with h | h
  · exact num_u8 _ x h
  · exact gridB_wf _ x h
theorem mapB_len {ver : Nat} {l : List (List Int)} (h : MapOk ver l) : (mapB ver l).length ≤ 1000000 := by
  have h1 := gridB_len l
  have h2 := num_len (ver : Int)
  have h3 := gSize_ok h
  rw [mapB, List.length_append]
  omega
theorem PJ.msnap {w : World} {b bx : Nat} {g : Option Nat} {vm : Nat} {sm : List (List Int)} {dm : Int} {vx : Nat} {sx : List (List Int)} {dx : Int} {wr : World} (h : PJ w b bx g vm sm dm vx sx dx wr) {m : Nat} (hm : (mapB vm sm).length = m) :
    Calls Try.prog 31 #[.pointer (some ⟨b, 0, none⟩)] wr fun e w' => ∃ A c, e = .returned (.slice A m c) ∧ In (SX b bx g) w' A m c (mapB vm sm) ∧ Kp [] wr w' := by
  refine (man.snapshot_any [bx] w.heap.size b g vm sm dm wr h.m h.okm).mono ?_
  rintro e w' ⟨v, rfl, o, k⟩
  obtain ⟨A, c, rfl, hi⟩ := h.newIn hm o (by have := mapB_len h.okm; omega) (mapB_wf _ _)
  exact ⟨A, c, rfl, hi, k⟩
theorem PJ.xsnap {w : World} {b bx : Nat} {g : Option Nat} {vm : Nat} {sm : List (List Int)} {dm : Int} {vx : Nat} {sx : List (List Int)} {dx : Int} {wr : World} (h : PJ w b bx g vm sm dm vx sx dx wr) {m : Nat} (hm : (mapB vx sx).length = m) :
    Calls Try.prog 32 #[.pointer (some ⟨bx, 0, none⟩)] wr fun e w' => ∃ A c, e = .returned (.slice A m c) ∧ In (SX b bx g) w' A m c (mapB vx sx) ∧ Kp [] wr w' := by
  refine (mref.snapshot_any (b :: g.toList) bx vx sx dx wr h.x h.okx).mono ?_
  rintro e w' ⟨v, rfl, o, k⟩
  obtain ⟨A, c, rfl, hi⟩ := h.newIn hm o (by have := mapB_len h.okx; omega) (mapB_wf _ _)
  exact ⟨A, c, rfl, hi, k⟩
end Go.Proofs.Ytiabdeciadfiiaa.haystacklaw21
