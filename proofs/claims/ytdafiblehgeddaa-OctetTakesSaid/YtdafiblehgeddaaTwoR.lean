/- octet's Reader beside the document's. -/
import Derived.Test.YtdafiblehgeddaaReader2
import Derived.Test.YtdafiblehgeddaaRefR2
namespace Go.Proofs.Ytdafiblehgeddaa.H
open Go.RowKit O

/-- octet's Reader in block b1 (it holds s), the document's in b2 (it holds t); since w nothing but these two blocks has turned. -/
structure TwoR (w wr : World) (b1 b2 : Nat) (s t : Option (List Int)) : Prop where
  kp : Kp [b1, b2] w wr
  lt1 : b1 < w.heap.size
  lt2 : b2 < w.heap.size
  ne : b1 ≠ b2
  ex : ∃ g1 g2, reader.Rdr wr b1 g1 s ∧ refr.Rdr wr b2 g2 t ∧ (∀ x, g1 = some x → x ≠ b2 ∧ x < w.heap.size) ∧ ∀ x, g2 = some x → x ≠ b1 ∧ x < w.heap.size
/-- Blocks turn that are none of the Readers'. -/
theorem TwoR.far {w wr w1 : World} {b1 b2 : Nat} {s t : Option (List Int)} {S : List Nat} (h : TwoR w wr b1 b2 s t) (k : Kp S wr w1) (hS : ∀ x ∈ S, w.heap.size ≤ x) : TwoR w w1 b1 b2 s t := by
  obtain ⟨g1, g2, h1, h2, l1, l2⟩ := h.ex
  have e1 := h.lt1
  have e2 := h.lt2
  refine ⟨h.kp.trans k (fun x hx => .inr (hS x hx)), e1, e2, h.ne, g1, g2, h1.kp k (fun hm => by have := hS _ hm; omega) (fun x hx hm => by have := hS _ hm; have := (l1 x hx).2; omega),
    h2.kp k (fun hm => by have := hS _ hm; omega) (fun x hx hm => by have := hS _ hm; have := (l2 x hx).2; omega), l1, l2⟩
theorem TwoR.skip {w wr w1 : World} {b1 b2 : Nat} {s t : Option (List Int)} (h : TwoR w wr b1 b2 s t) (k : Kp [] wr w1) : TwoR w w1 b1 b2 s t := h.far k (by simp)
theorem TwoR.put1 {w wr w1 : World} {b1 b2 : Nat} {s s' t : Option (List Int)} {g : Option Nat} (h : TwoR w wr b1 b2 s t) (hg : ∀ x, g = some x → x ≠ b2 ∧ x < w.heap.size) (k : Kp [b1] wr w1) (g' : Option Nat)
    (R : reader.Rdr w1 b1 g' s') (G : g' = g ∨ g' = none) : TwoR w w1 b1 b2 s' t := by
  obtain ⟨_, g2, _, h2, _, l2⟩ := h.ex
  refine ⟨h.kp.trans k (fun x hx => .inl (by simp at hx; simp [hx])), h.lt1, h.lt2, h.ne, g', g2, R, h2.kp k (by simpa using h.ne.symm) (fun x hx => by simpa using (l2 x hx).1), ?_, l2⟩
  rcases G with rfl | rfl
  · exact hg
  · intro x hx
    cases hx
theorem TwoR.put2 {w wr w1 : World} {b1 b2 : Nat} {s t t' : Option (List Int)} {g : Option Nat} (h : TwoR w wr b1 b2 s t) (hg : ∀ x, g = some x → x ≠ b1 ∧ x < w.heap.size) (k : Kp [b2] wr w1) (g' : Option Nat)
    (R : refr.Rdr w1 b2 g' t') (G : g' = g ∨ g' = none) : TwoR w w1 b1 b2 s t' := by
  obtain ⟨g1, _, h1, _, l1, _⟩ := h.ex
  refine ⟨h.kp.trans k (fun x hx => .inl (by simp at hx; simp [hx])), h.lt1, h.lt2, h.ne, g1, g', h1.kp k (by simpa using h.ne) (fun x hx => by simpa using (l1 x hx).1), R, l1, ?_⟩
  rcases G with rfl | rfl
  · exact hg
  · intro x hx
    cases hx

/-- A call of octet's Reader that answers a number or nothing. -/
theorem TwoR.call1 {w wr : World} {b1 b2 : Nat} {s s' t : Option (List Int)} {f : FuncId} {args : Array Value} {v : Value} (h : TwoR w wr b1 b2 s t)
    (hc : ∀ g, reader.Rdr wr b1 g s → Calls Try.prog f args wr (reader.RdrPost b1 g v s' wr)) :
    Calls Try.prog f args wr fun e w' => e = .returned v ∧ TwoR w w' b1 b2 s' t ∧ Kp [b1] wr w' := by
  obtain ⟨g1, g2, h1, h2, l1, l2⟩ := h.ex
  refine (hc g1 h1).mono ?_
  rintro e w' ⟨rfl, g', R, G, K⟩
  exact ⟨rfl, h.put1 l1 K g' R G, K⟩
theorem TwoR.call2 {w wr : World} {b1 b2 : Nat} {s t t' : Option (List Int)} {f : FuncId} {args : Array Value} {v : Value} (h : TwoR w wr b1 b2 s t)
    (hc : ∀ g, refr.Rdr wr b2 g t → Calls Try.prog f args wr (refr.RdrPost b2 g v t' wr)) :
    Calls Try.prog f args wr fun e w' => e = .returned v ∧ TwoR w w' b1 b2 s t' ∧ Kp [b2] wr w' := by
  obtain ⟨g1, g2, h1, h2, l1, l2⟩ := h.ex
  refine (hc g2 h2).mono ?_
  rintro e w' ⟨rfl, g', R, G, K⟩
  exact ⟨rfl, h.put2 l2 K g' R G, K⟩
/-- A call that answers bytes. -/
theorem TwoR.raw1 {w wr : World} {b1 b2 : Nat} {s t : Option (List Int)} {r : List Int × Option (List Int)} {f : FuncId} {args : Array Value} (h : TwoR w wr b1 b2 s t)
    (hc : ∀ g, reader.Rdr wr b1 g s → Calls Try.prog f args wr (reader.RawPost b1 g r wr)) :
    Calls Try.prog f args wr fun e w' => ∃ v, e = .returned v ∧ Own 5 .u8 w' wr.heap.size v r.1 ∧ TwoR w w' b1 b2 r.2 t ∧ Kp [b1] wr w' := by
  obtain ⟨g1, g2, h1, h2, l1, l2⟩ := h.ex
  refine (hc g1 h1).mono ?_
  rintro e w' ⟨v, rfl, O, g', R, G, K⟩
  exact ⟨v, rfl, O, h.put1 l1 K g' R G, K⟩
theorem TwoR.raw2 {w wr : World} {b1 b2 : Nat} {s t : Option (List Int)} {r : List Int × Option (List Int)} {f : FuncId} {args : Array Value} (h : TwoR w wr b1 b2 s t)
    (hc : ∀ g, refr.Rdr wr b2 g t → Calls Try.prog f args wr (refr.RawPost b2 g r wr)) :
    Calls Try.prog f args wr fun e w' => ∃ v, e = .returned v ∧ Own 5 .u8 w' wr.heap.size v r.1 ∧ TwoR w w' b1 b2 s r.2 ∧ Kp [b2] wr w' := by
  obtain ⟨g1, g2, h1, h2, l1, l2⟩ := h.ex
  refine (hc g2 h2).mono ?_
  rintro e w' ⟨v, rfl, O, g', R, G, K⟩
  exact ⟨v, rfl, O, h.put2 l2 K g' R G, K⟩

/-- The document's Reader, made of a row of one's own. -/
theorem refr_new {w : World} {lo : Nat} {A : Option Addr} {n c : Nat} {xs : List Int} (h : Own 5 .u8 w lo (.slice A n c) xs) (hw : Wf xs) :
    refr.Rdr (w.alloc (.cells #[.slice A n c, .bool false] 57)) w.heap.size (A.map Addr.block) (some xs) := by
  have hl := h.len
  subst hl
  obtain ⟨A', c', hv, h1, h2, h3, h4⟩ := own_rd h.1
  cases hv
  refine ⟨A, c, heap_alloc_new w _, rfl, ((Kp.refl [] w).alloc _).rd_new h3 (by simp), h1, h2, h4, ?_, hw⟩
  intro e
  have := own_lt h.1 w.heap.size (by rw [ownBlock_slice]; exact e)
  omega
/-- Both are made. -/
theorem TwoR.start {w1 w2 : World} {b1 : Nat} {g1 : Option Nat} {A2 : Option Addr} {n c : Nat} {xs : List Int} (h1 : reader.Rdr w1 b1 g1 (some xs)) (hg : ∀ x, g1 = some x → x < w1.heap.size)
    (k : Kp [] w1 w2) (h : Own 5 .u8 w2 w1.heap.size (.slice A2 n c) xs) (hw : Wf xs) :
    TwoR (w2.alloc (.cells #[.slice A2 n c, .bool false] 57)) (w2.alloc (.cells #[.slice A2 n c, .bool false] 57)) b1 w2.heap.size (some xs) (some xs) := by
  have hs := k.size
  have hl := h1.lt
  refine ⟨Kp.refl _ _, by simp; omega, by simp, by omega, g1, A2.map Addr.block, (h1.kp k (by simp) (by simp)).kp ((Kp.refl [] w2).alloc _) (by simp) (by simp), refr_new h hw, ?_, ?_⟩
  · intro x hx
    have := hg x hx
    exact ⟨by omega, by simp; omega⟩
  · intro x hx
    have hx' : (Value.slice A2 n c).ownBlock = some x := by rw [ownBlock_slice]; exact hx
    have e1 := own_lt h.1 x hx'
    have e2 := h.2 x hx'
    exact ⟨by omega, by simp; omega⟩

/-- Two numbers at once, the one between them into no place. -/
theorem TwoR.nums {w wr : World} {b1 b2 p q ar c : Nat} {s t : Option (List Int)} (h : TwoR w wr b1 b2 s t) (hp : w.heap.size ≤ p) (hq : w.heap.size ≤ q) (hpq : p ≠ q) (ip : reader.IsInt wr ⟨p, 0, none⟩) (iq : reader.IsInt wr ⟨q, 0, none⟩)
    (har : w.heap.size ≤ ar) (hap : ar ≠ p) (haq : ar ≠ q) (hr : Rd wr (some ⟨ar, 0, none⟩) [.pointer (some ⟨p, 0, none⟩), .pointer none, .pointer (some ⟨q, 0, none⟩)]) (hb : (left s).length ≤ 70368744177664) :
    Calls Try.prog 34 #[.pointer (some ⟨b1, 0, none⟩), .slice (some ⟨ar, 0, none⟩) 3 c] wr fun e w' => e = .returned (.tuple #[]) ∧ TwoR w w' b1 b2 (stNum (stNum (stNum s).2).2).2 t ∧
      w'.cell? ⟨p, 0, none⟩ = some (.int .i64 ((stNum s).1 : Int)) ∧ w'.cell? ⟨q, 0, none⟩ = some (.int .i64 ((stNum (stNum (stNum s).2).2).1 : Int)) := by
  obtain ⟨g1, g2, h1, h2, l1, l2⟩ := h.ex
  have e1 := h.lt1
  have e2 := h.lt2
  refine (reader.nums_any b1 g1 s (some ⟨ar, 0, none⟩) 3 c [some ⟨p, 0, none⟩, none, some ⟨q, 0, none⟩] wr h1 hb rfl (by decide) hr ?_ ?_).mono ?_
  · intro a ha
    cases ha
    refine ⟨by show ar ≠ b1; omega, ?_⟩
    intro x hx y hy
    simp only [List.mem_cons, List.not_mem_nil, or_false] at hx
    rcases hx with rfl | rfl | rfl
    · cases hy; exact hap.symm
    · cases hy
    · cases hy; exact haq.symm
  · intro x hx y hy
    simp only [List.mem_cons, List.not_mem_nil, or_false] at hx
    rcases hx with rfl | rfl | rfl
    · cases hy
      exact ⟨by show p ≠ b1; omega, fun e => by have := (l1 _ e).2; simp only at this; omega, ip⟩
    · cases hy
    · cases hy
      exact ⟨by show q ≠ b1; omega, fun e => by have := (l1 _ e).2; simp only at this; omega, iq⟩
  · rintro e w' ⟨rfl, ⟨g', R, G⟩, k1, k2, k3, k4, k5⟩
    have hw : reader.putAll wr ([some ⟨p, 0, none⟩, none, some ⟨q, 0, none⟩].zip (stNums 3 s).1) = (wr.setCell ⟨p, 0, none⟩ (.int .i64 ((stNum s).1 : Int))).setCell ⟨q, 0, none⟩ (.int .i64 ((stNum (stNum (stNum s).2).2).1 : Int)) := rfl
    rw [show ([some ⟨p, 0, none⟩, none, some ⟨q, 0, none⟩] : List (Option Addr)).length = 3 from rfl] at R k5
    rw [hw] at k5
    obtain ⟨⟨xp, cp⟩, _⟩ := ip
    obtain ⟨⟨xq, cq⟩, _⟩ := iq
    have lp := World.block_lt_of_cell? wr _ cp
    have lq := World.block_lt_of_cell? wr _ cq
    have nqp : (⟨q, 0, none⟩ : Addr) ≠ ⟨p, 0, none⟩ := fun e => hpq (by cases e; rfl)
    have K : Kp [b1, p, q] wr w' := ⟨k1, k2, k3, k4, fun k hk hn => by
      simp only [List.mem_cons, List.not_mem_nil, or_false, not_or] at hn
      rw [k5 k hk hn.1, heap_setCell_other _ _ _ _ (by exact hn.2.2), heap_setCell_other _ _ _ _ (by exact hn.2.1)]⟩
    refine ⟨rfl, ⟨h.kp.trans K ?_, e1, e2, h.ne, g', g2, R, h2.kp K ?_ ?_, ?_, l2⟩, ?_, ?_⟩
    · intro x hx
      simp only [List.mem_cons, List.not_mem_nil, or_false] at hx
      rcases hx with rfl | rfl | rfl
      · exact .inl (by simp)
      · exact .inr hp
      · exact .inr hq
    · have := h.ne
      simp only [List.mem_cons, List.not_mem_nil, or_false, not_or]
      exact ⟨this.symm, by omega, by omega⟩
    · intro x hx
      have := (l2 x hx).2
      simp only [List.mem_cons, List.not_mem_nil, or_false, not_or]
      exact ⟨(l2 x hx).1, by omega, by omega⟩
    · rcases G with rfl | rfl
      · exact l1
      · intro x hx
        cases hx
    · rw [World.cell?_of_block (k5 p lp (by omega)), World.cell?_setCell_other _ _ _ _ nqp]
      exact World.cell?_setCell_same _ _ _ cp
    · rw [World.cell?_of_block (k5 q lq (by omega))]
      exact World.cell?_setCell_same _ _ _ (show _ = some (.int .i64 xq) from by rw [World.cell?_setCell_other _ _ _ _ nqp.symm]; exact cq)

/-- The same, the places newly laid. -/
theorem TwoR.nums3 {w wr : World} {b1 b2 : Nat} {s t : Option (List Int)} (h : TwoR w wr b1 b2 s t) (hb : (left s).length ≤ 70368744177664) :
    Calls Try.prog 34 #[.pointer (some ⟨b1, 0, none⟩), .slice (some ⟨wr.heap.size + 1 + 1, 0, none⟩) 3 3]
      (((wr.alloc (.cells #[.int .i64 7] 3)).alloc (.cells #[.int .i64 7] 3)).alloc (.cells #[.pointer (some ⟨wr.heap.size, 0, none⟩), .pointer none, .pointer (some ⟨wr.heap.size + 1, 0, none⟩)] 58))
      fun e w' => e = .returned (.tuple #[]) ∧ TwoR w w' b1 b2 (stNum (stNum (stNum s).2).2).2 t ∧
        w'.cell? ⟨wr.heap.size, 0, none⟩ = some (.int .i64 ((stNum s).1 : Int)) ∧ w'.cell? ⟨wr.heap.size + 1, 0, none⟩ = some (.int .i64 ((stNum (stNum (stNum s).2).2).1 : Int)) := by
  have hs := h.kp.size
  have z1 : (wr.alloc (.cells #[.int .i64 7] 3)).heap.size = wr.heap.size + 1 := by simp
  have z2 : ((wr.alloc (.cells #[.int .i64 7] 3)).alloc (.cells #[.int .i64 7] 3)).heap.size = wr.heap.size + 1 + 1 := by simp
  have p0 := heap_alloc_new wr (.cells #[.int .i64 7] 3)
  have q0 := heap_alloc_new (wr.alloc (.cells #[.int .i64 7] 3)) (.cells #[.int .i64 7] 3)
  rw [z1] at q0
  have p1 := blk_alloc (blk_alloc p0 (.cells #[.int .i64 7] 3)) (.cells #[.pointer (some ⟨wr.heap.size, 0, none⟩), .pointer none, .pointer (some ⟨wr.heap.size + 1, 0, none⟩)] 58)
  have q1 := blk_alloc q0 (.cells #[.pointer (some ⟨wr.heap.size, 0, none⟩), .pointer none, .pointer (some ⟨wr.heap.size + 1, 0, none⟩)] 58)
  have hr := rd_new ((wr.alloc (.cells #[.int .i64 7] 3)).alloc (.cells #[.int .i64 7] 3)) [.pointer (some ⟨wr.heap.size, 0, none⟩), .pointer none, .pointer (some ⟨wr.heap.size + 1, 0, none⟩)] 58
  rw [z2] at hr
  refine (h.skip ((((Kp.refl [] wr).alloc _).alloc _).alloc _)).nums (p := wr.heap.size) (q := wr.heap.size + 1) hs (by omega) (by omega) ⟨⟨7, blk_cell p1 0 rfl⟩, blk_free p1 0⟩ ⟨⟨7, blk_cell q1 0 rfl⟩, blk_free q1 0⟩ (by omega) (by omega) (by omega) hr hb

end Go.Proofs.Ytdafiblehgeddaa.H
