/- Places that are read: how a round stands (Reader of reader); append of a place. -/
import Derived.Test.YtlknlpiiogmfbaaMatA
import Derived.Test.YtlknlpiiogmfbaaRefR2
import Derived.Test.YtlknlpiiogmfbaaReader2
namespace Go.Proofs.Ytlknlpiiogmfbaa.reader
open Go.RowKit H O opk haystacklaw13

theorem info_match : (Try.prog.info? 60).map (fun i => (i.zero, i.size, i.bytes)) = some (some (.agg #[.string ⟨#[]⟩, .int .i64 0]), 2, 24) := by kernel_rfl
/-- append of one place -/
theorem appM {w : World} {ops : Array Oper} {rest : List Oper} {o : Oper} {a : Act} {Q : Exit → Act → World → Prop} (hgd : o.guard = none) (s x : Operand)
    (ho : o.op = .call { callee := .builtin .append, args := #[s, x], argTypes := #[58, 58] })
    (v : Value) (n : Nat) (xs : List Value) (hs : a.eval s = v) (hown : w.ownsRow 0 60 2 v n xs) (g : Nat) (key : ByteArray) (y : Int)
    (hx : a.eval x = .slice (some ⟨g, 0, none⟩) 1 1) (hc : PlAt w g key y) (hm : n + 1 ≤ 100000)
    (h : ∀ v' w', w'.ownsRow 0 60 2 v' (n + 1) (xs ++ [.string key, .int .i64 y]) → Kp v.ownBlock.toList w w' → At w.heap.size v.ownBlock v'.ownBlock →
      wpList Try.prog ops Q rest (a.put o.dst v') w') : wpList Try.prog ops Q (o :: rest) a w :=
  wpList_app hgd s x 58 ho 60 (.agg #[.string ⟨#[]⟩, .int .i64 0]) 2 24 Try.underlying58 info_match (by kernel_rfl) (by decide) v n xs hs hown (some ⟨g, 0, none⟩) 1 1 [.string key, .int .i64 y] hx rfl
    (by
      intro j u hj
      match j, hj with
      | 0, hj => simp at hj; subst hj; exact ⟨_, rfl, by rw [add_zero']; exact hc.cells.1⟩
      | 1, hj => simp at hj; subst hj; exact ⟨_, rfl, by rw [Addr.add_lit]; exact hc.cells.2⟩)
    (by simp) (by intro u hu; simp only [List.mem_cons, List.not_mem_nil, or_false] at hu; rcases hu with rfl | rfl <;> rfl) (by omega) (by omega)
    (fun v' w' h1 h2 h3 _ => h v' w' h1 h2 h3)

/-- Where ReadMatches stands. -/
structure MR (w wr : World) (b N0 : Nat) (v : Value) (k : Nat) (l : List (ByteArray × Int)) (s : Option (List Int)) : Prop where
  kp : Kp [] w wr
  own : wr.ownsRow 0 60 2 v k (mv l)
  lo : ∀ y, v.ownBlock = some y → N0 ≤ y
  rdr : ∃ g, Rdr wr b g s ∧ ∀ y, g = some y → y < N0
  ord : w.heap.size ≤ b ∧ b < N0 ∧ N0 ≤ wr.heap.size
theorem MR.skip {w wr w1 : World} {b N0 : Nat} {v : Value} {k : Nat} {l : List (ByteArray × Int)} {s : Option (List Int)} (h : MR w wr b N0 v k l s) (kk : Kp [] wr w1) : MR w w1 b N0 v k l s := by
  obtain ⟨g, hr, hg⟩ := h.rdr
  have := kk.size
  exact ⟨h.kp.trans kk (by simp), kk.own h.own (by simp), h.lo, ⟨g, hr.kp kk (by simp) (by simp), hg⟩, ⟨h.ord.1, h.ord.2.1, Nat.le_trans h.ord.2.2 this⟩⟩
/-- something is taken -/
theorem MR.took {w wr w1 : World} {b N0 : Nat} {v : Value} {k : Nat} {l : List (ByteArray × Int)} {s s' : Option (List Int)} {g g' : Option Nat} (h : MR w wr b N0 v k l s) (hg : ∀ y, g = some y → y < N0) (R : Rdr w1 b g' s') (G : g' = g ∨ g' = none) (kk : Kp [b] wr w1) : MR w w1 b N0 v k l s' := by
  obtain ⟨o1, o2, o3⟩ := h.ord
  have := kk.size
  exact ⟨h.kp.trans kk (by intro x hx; simp at hx; omega), kk.own h.own (fun y hy => by have := h.lo y hy; simp; omega), h.lo, ⟨g', R, fun y hy => by rcases G with e | e; exact hg y (by rw [← e]; exact hy); rw [e] at hy; cases hy⟩, ⟨o1, o2, by omega⟩⟩
/-- a place more -/
theorem MR.put {w wr w2 : World} {b N0 : Nat} {v v' : Value} {k : Nat} {l : List (ByteArray × Int)} {s : Option (List Int)} {m : ByteArray × Int} (h : MR w wr b N0 v k l s) (o : w2.ownsRow 0 60 2 v' (k + 1) (mv l ++ [.string m.1, .int .i64 m.2])) (kk : Kp v.ownBlock.toList wr w2) (a : At wr.heap.size v.ownBlock v'.ownBlock) : MR w w2 b N0 v' (k + 1) (l ++ [m]) s := by
  obtain ⟨o1, o2, o3⟩ := h.ord
  obtain ⟨g, hr, hg⟩ := h.rdr
  have hs := kk.size
  have hS : ∀ i, i < N0 → i ∉ v.ownBlock.toList := fun i hi hm => by have := h.lo i (by simpa using hm); omega
  refine ⟨h.kp.row kk (fun z hz => .inr (by have := h.lo z hz; omega)), by rw [mv_app]; exact o, a.ge o3 h.lo, ⟨g, hr.kp kk (hS _ o2) (fun z hz => hS z (hg z hz)), hg⟩, ⟨o1, o2, by omega⟩⟩
theorem MR.start {w w2 : World} {b : Nat} {g : Option Nat} {s : Option (List Int)} (kp : Kp [] w w2) (R : Rdr w2 b g s) (hg : ∀ y, g = some y → y < w2.heap.size) (hb : w.heap.size ≤ b) : MR w w2 b w2.heap.size (.slice none 0 0) 0 [] s :=
  ⟨kp, World.ownsRow_nil _ 0 _ 2, by simp [Value.ownBlock], ⟨g, R, hg⟩, ⟨hb, R.lt, Nat.le_refl _⟩⟩
/-- a Reader of a slice as it lies -/
theorem MR.box {w : World} {A : Option Addr} {n c : Nat} {xs : List Int} (hn : xs.length = n) (hr : Rd w A (iv .u8 xs)) (hc : n ≤ c) (hc9 : c ≤ 9223372036854775807) (hnil : A = none → c = 0) (hA : ∀ a, A = some a → a.block < w.heap.size) (hw : Wf xs) :
    MR w (w.alloc (.cells #[.slice A n c, .bool false] 105)) w.heap.size (w.heap.size + 1) (.slice none 0 0) 0 [] (some xs) := by
  subst hn
  have hg : ∀ y, A.map Addr.block = some y → y < w.heap.size := by
    intro y hy
    cases A with
    | none => simp at hy
    | some a => simp at hy; rw [← hy]; exact hA a rfl
  refine ⟨(Kp.refl [] w).alloc _, World.ownsRow_nil _ 0 _ 2, by simp [Value.ownBlock], ⟨A.map Addr.block, ⟨A, c, heap_alloc_new w _, rfl, ((Kp.refl [] w).alloc _).rd_new hr (by simp), hc, hc9, hnil, ?_, hw⟩, fun y hy => by have := hg y hy; omega⟩, ⟨Nat.le_refl _, by omega, by simp⟩⟩
  intro e
  have := hg _ e
  omega
theorem MR.err {w wr : World} {b N0 : Nat} {v : Value} {k : Nat} {l : List (ByteArray × Int)} {s : Option (List Int)} (h : MR w wr b N0 v k l s) : wr.cell? ⟨b, 1, none⟩ = some (.bool s.isNone) := by
  obtain ⟨g, ⟨A, c, h1, _⟩, _⟩ := h.rdr
  exact blk_cell h1 1 rfl
/-- Bytes -/
theorem take_bytes {w wr : World} {b N0 : Nat} {v : Value} {k : Nat} {l : List (ByteArray × Int)} {s s4 : Option (List Int)} {p : List Int} (h : MR w wr b N0 v k l s) (hl : (left s).length ≤ 70368744177664) (hs : stBytes s = (p, s4)) :
    Calls Try.prog 70 #[.pointer (some ⟨b, 0, none⟩)] wr fun e w5 => ∃ A5 n5 c5, e = .returned (.slice A5 n5 c5) ∧ p.length = n5 ∧ MR w w5 b N0 v k l s4 ∧ (∀ w6, Kp [b] w5 w6 → Rd w6 A5 (iv .u8 p)) ∧ Kp [b] wr w5 := by
  obtain ⟨g, R, hg⟩ := h.rdr
  refine (bytes_any b g s wr R hl).mono ?_
  rw [hs]
  rintro e w5 ⟨v5, rfl, O, g5, R5, G5, K5⟩
  have O' := O
  obtain ⟨A5, c5, rfl, _, _, r5, _⟩ := own_rd O.1
  refine ⟨A5, _, c5, rfl, rfl, h.took hg R5 G5 K5, fun w6 k6 => k6.rd r5 ?_, K5⟩
  intro a ha hm
  have h1 := O'.2 a.block (by rw [ha]; rfl)
  have h2 := h.ord
  simp at hm
  omega
/-- Num -/
theorem take_num {w wr : World} {b N0 : Nat} {v : Value} {k : Nat} {l : List (ByteArray × Int)} {s s4 : Option (List Int)} {y : Nat} (h : MR w wr b N0 v k l s) (hl : (left s).length ≤ 70368744177664) (hs : stNum s = (y, s4)) :
    Calls Try.prog 66 #[.pointer (some ⟨b, 0, none⟩)] wr fun e w5 => e = .returned (.int .i64 (y : Int)) ∧ MR w w5 b N0 v k l s4 ∧ Kp [b] wr w5 := by
  obtain ⟨g, R, hg⟩ := h.rdr
  refine (num_any b g s wr R hl).mono ?_
  rw [hs]
  rintro e w5 ⟨rfl, g5, R5, G5, K5⟩
  exact ⟨rfl, h.took hg R5 G5 K5, K5⟩
/-- Bad -/
theorem take_bad {w wr : World} {b N0 : Nat} {v : Value} {k : Nat} {l : List (ByteArray × Int)} {s : Option (List Int)} (h : MR w wr b N0 v k l s) :
    Calls Try.prog 64 #[.pointer (some ⟨b, 0, none⟩)] wr fun e w5 => e = .returned (.tuple #[]) ∧ MR w w5 b N0 v k l none ∧ Kp [b] wr w5 := by
  obtain ⟨g, R, hg⟩ := h.rdr
  refine (bad_any b g s wr R).mono ?_
  rintro e w5 ⟨rfl, g5, R5, G5, K5⟩
  exact ⟨rfl, h.took hg R5 G5 K5, K5⟩
theorem take_whole {w wr : World} {b N0 : Nat} {v : Value} {k : Nat} {l : List (ByteArray × Int)} {s : Option (List Int)} (h : MR w wr b N0 v k l s) :
    Calls Try.prog 67 #[.pointer (some ⟨b, 0, none⟩)] wr fun e w5 => e = .returned (.bool (whole s)) ∧ w5 = wr := by
  obtain ⟨g, R, hg⟩ := h.rdr
  exact whole_any b g s wr R
/-- a place is laid -/
theorem MR.made {w w7 : World} {b N0 X : Nat} {v : Value} {k : Nat} {l : List (ByteArray × Int)} {s : Option (List Int)} {key0 : ByteArray} {x0 : Int} (h : MR w w7 b N0 v k l s) (hz : PlAt w7 X key0 x0) (hX : N0 ≤ X) (hv : ∀ y, v.ownBlock = some y → y < X) (key : ByteArray) (x : Int) :
    MR w ((w7.setCell ⟨X, 0, none⟩ (.string key)).setCell ⟨X, 1, none⟩ (.int .i64 x)) b N0 v k l s ∧ PlAt ((w7.setCell ⟨X, 0, none⟩ (.string key)).setCell ⟨X, 1, none⟩ (.int .i64 x)) X key x ∧ b < X := by
  obtain ⟨o1, o2, o3⟩ := h.ord
  obtain ⟨g, hr, hg⟩ := h.rdr
  have e1 : PlAt (w7.setCell ⟨X, 0, none⟩ (.string key)) X key x0 := heap_setCell_same w7 X 0 _ _ (.string key) hz
  have e2 : PlAt ((w7.setCell ⟨X, 0, none⟩ (.string key)).setCell ⟨X, 1, none⟩ (.int .i64 x)) X key x := heap_setCell_same _ X 1 _ _ (.int .i64 x) e1
  have kk : Kp [X] w7 ((w7.setCell ⟨X, 0, none⟩ (.string key)).setCell ⟨X, 1, none⟩ (.int .i64 x)) := ((Kp.refl _ w7).setCell (.inl (by simp)) _).setCell (.inl (by simp)) _
  have hs := kk.size
  refine ⟨⟨h.kp.trans kk (by intro y hy; simp at hy; omega), kk.own h.own (fun y hy => by have := hv y hy; simp; omega), h.lo, ⟨g, hr.kp kk (by simp; omega) (fun y hy => by have := hg y hy; simp; omega), hg⟩, ⟨o1, o2, by omega⟩⟩, e2, by omega⟩
theorem MR.laid {w w7 : World} {b N0 : Nat} {v : Value} {k : Nat} {l : List (ByteArray × Int)} {s : Option (List Int)} (h : MR w w7 b N0 v k l s) (key : ByteArray) (x : Int) :
    MR w (w7.alloc (.cells #[.string key, .int .i64 x] 60)) b N0 v k l s ∧ PlAt (w7.alloc (.cells #[.string key, .int .i64 x] 60)) w7.heap.size key x ∧ b < w7.heap.size :=
  ⟨h.skip ((Kp.refl [] _).alloc _), PlAt.new _ _ _, by have := h.ord; omega⟩
/-- behind ReadMatches -/
def DMs (xs : List Int) (w : World) (e : Ending) (w' : World) : Prop :=
  ∃ (l : List (ByteArray × Int)) (z : Int) (A : Option Addr) (n c : Nat), dMs xs = (l, z) ∧ e = .returned (.tuple #[.slice A n c, .int .i64 z]) ∧ l.length = n ∧ Rd w' A (mv l) ∧ n ≤ c ∧ (A = none → c = 0) ∧ Kp [] w w'
theorem dms_none {xs : List Int} {w w' : World} (h : dMs xs = ([], 3)) (k : Kp [] w w') : DMs xs w (.returned (.tuple #[.slice none 0 0, .int .i64 3])) w' :=
  ⟨[], 3, none, 0, 0, h, rfl, rfl, Rd.nil _ _, Nat.le_refl _, fun _ => rfl, k⟩
end Go.Proofs.Ytlknlpiiogmfbaa.reader
