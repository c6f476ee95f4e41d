/- Slices of rows of numbers: what they read, what is a call's own; slices.Clone of both. -/
import Derived.Test.YtiabdeciadfiiaaBase
import Derived.Lib.SliceRun
namespace Go.Proofs.Ytiabdeciadfiiaa.H
open Go.RowKit

/-- A slice of rows of numbers, none of it in the blocks S. -/
def Ri (S : List Nat) (w : World) (A : Option Addr) (l : List (List Int)) : Prop :=
  ∀ j (h : j < l.length), ∃ a Aj cj, A = some a ∧ a.block ∉ S ∧ w.cell? (a.add j) = some (.slice Aj l[j].length cj) ∧ l[j].length ≤ cj ∧ (Aj = none → cj = 0) ∧ RdS S w Aj (iv .i64 l[j])
theorem RdS.kp2 {S S2 T : List Nat} {w w1 : World} {A : Option Addr} {vs : List Value} (h : RdS S w A vs) (k : Kp T w w1) (hT : ∀ x ∈ T, x ∈ S ∨ w.heap.size ≤ x) (hS : ∀ x ∈ S2, x ∈ S ∨ w.heap.size ≤ x) : RdS S2 w1 A vs := by
  intro j v hv
  obtain ⟨a, rfl, h1, h2⟩ := h j v hv
  have hl := World.block_lt_of_cell? w _ h2
  rw [add_block] at hl
  refine ⟨a, rfl, fun hm => ?_, k.cell h2 (by rw [add_block]; intro hm; rcases hT _ hm with h | h; exact h1 h; omega)⟩
  rcases hS _ hm with h | h
  · exact h1 h
  · omega
theorem Ri.kp {S S2 T : List Nat} {w w1 : World} {A : Option Addr} {l : List (List Int)} (h : Ri S w A l) (k : Kp T w w1) (hT : ∀ x ∈ T, x ∈ S ∨ w.heap.size ≤ x) (hS : ∀ x ∈ S2, x ∈ S ∨ w.heap.size ≤ x) : Ri S2 w1 A l := by
  intro j hj
  obtain ⟨a, Aj, cj, rfl, h0, hc, h1, h2, h3⟩ := h j hj
  have hl := World.block_lt_of_cell? w _ hc
  rw [add_block] at hl
  refine ⟨a, Aj, cj, rfl, fun hm => ?_, k.cell hc (by rw [add_block]; intro hm; rcases hT _ hm with h | h; exact h0 h; omega), h1, h2, h3.kp2 k hT hS⟩
  rcases hS _ hm with h | h
  · exact h0 h
  · omega
theorem Ri.new {S : List Nat} {w w1 : World} {A : Option Addr} {l : List (List Int)} (h : Ri [] w A l) (k : Kp [] w w1) (hS : ∀ x ∈ S, w.heap.size ≤ x) : Ri S w1 A l :=
  h.kp k (by simp) (fun x hx => .inr (hS x hx))
theorem Ri.sub {S S2 : List Nat} {w : World} {A : Option Addr} {l : List (List Int)} (h : Ri S w A l) (hS : ∀ x ∈ S2, x ∈ S) : Ri S2 w A l :=
  h.kp (Kp.refl [] w) (by simp) (fun x hx => .inl (hS x hx))
theorem Ri.nil (S : List Nat) (w : World) (A : Option Addr) : Ri S w A [] := fun j h => by simp at h

theorem info_row : (Try.prog.info? 22).map (fun i => (i.zero, i.size, i.bytes)) = some (some (.slice none 0 0), 1, 24) := by kernel_rfl
theorem info_int : (Try.prog.info? 3).map (fun i => (i.zero, i.size, i.bytes)) = some (some (.int .i64 0), 1, 8) := by kernel_rfl

/-- A row of rows of numbers, all of it the call's own; its rows lie in none of the blocks S. -/
def OwnL (S : List Nat) (w : World) (lo : Nat) (v : Value) (l : List (List Int)) : Prop :=
  ∃ vs, w.ownsRow 0 22 1 v l.length vs ∧ (∀ g, v.ownBlock = some g → lo ≤ g) ∧
    ∀ j (_ : j < l.length), ∃ u, vs[j]? = some u ∧ Own 3 .i64 w lo u l[j] ∧ ∀ k, u.ownBlock = some k → k ∉ S ∧ v.ownBlock ≠ some k
theorem OwnL.nil (S : List Nat) (w : World) (lo : Nat) : OwnL S w lo (.slice none 0 0) [] := ⟨[], World.ownsRow_nil w 0 _ 1, by intro g hg; simp [Value.ownBlock] at hg, fun j h => by simp at h⟩
theorem OwnL.lower {S : List Nat} {w : World} {lo lo' : Nat} {v : Value} {l : List (List Int)} (h : OwnL S w lo v l) (hl : lo' ≤ lo) : OwnL S w lo' v l := by
  obtain ⟨vs, h1, h2, h3⟩ := h
  refine ⟨vs, h1, fun g hg => Nat.le_trans hl (h2 g hg), fun j hj => ?_⟩
  obtain ⟨u, hu, ho, hk⟩ := h3 j hj
  exact ⟨u, hu, ho.lower hl, hk⟩
/-- a row of a call's own lies below the world's end -/
theorem Own.lt {e : TypeId} {k : IntKind} {w : World} {lo : Nat} {v : Value} {xs : List Int} (h : Own e k w lo v xs) {g : Nat} (hg : v.ownBlock = some g) : lo ≤ g ∧ g < w.heap.size := ⟨h.2 g hg, own_lt h.1 g hg⟩
theorem OwnL.kp {S S2 T : List Nat} {w w1 : World} {lo : Nat} {v : Value} {l : List (List Int)} (h : OwnL S w lo v l) (k : Kp T w w1) (hT : ∀ x ∈ T, x ∈ S ∨ w.heap.size ≤ x) (hg : ∀ g, v.ownBlock = some g → g ∉ T) (hS : ∀ x ∈ S2, x ∈ S ∨ x < lo ∨ w.heap.size ≤ x) : OwnL S2 w1 lo v l := by
  obtain ⟨vs, h1, h2, h3⟩ := h
  refine ⟨vs, k.own h1 hg, h2, fun j hj => ?_⟩
  obtain ⟨u, hu, ho, hk⟩ := h3 j hj
  refine ⟨u, hu, ho.kp k (fun g hg hm => ?_), fun g hg => ⟨fun hm => ?_, (hk g hg).2⟩⟩
  · rcases hT _ hm with e | e
    · exact (hk g hg).1 e
    · have := (ho.lt hg).2; omega
  · have h9 := ho.lt hg
    rcases hS _ hm with e | e | e
    · exact (hk g hg).1 e
    · omega
    · omega
theorem OwnL.form {S : List Nat} {w : World} {lo : Nat} {v : Value} {l : List (List Int)} (h : OwnL S w lo v l) : ∃ A c, v = .slice A l.length c ∧ l.length ≤ c ∧ c ≤ 9223372036854775807 ∧ (A = none → c = 0) ∧ (∀ a, A = some a → lo ≤ a.block ∧ a.block < w.heap.size) := by
  obtain ⟨vs, h1, h2, h3⟩ := h
  obtain ⟨A, c, rfl, a1, a2, _, a3⟩ := own_rd h1
  exact ⟨A, c, rfl, a1, a2, a3, fun a ha => ⟨h2 a.block (by rw [ha]; rfl), own_lt h1 a.block (by rw [ha]; rfl)⟩⟩
theorem OwnL.ri {S S2 : List Nat} {w : World} {lo : Nat} {A : Option Addr} {n c : Nat} {l : List (List Int)} (h : OwnL S w lo (.slice A n c) l) (hS : ∀ x ∈ S2, x ∈ S ∧ A.map Addr.block ≠ some x ∨ x < lo ∨ w.heap.size ≤ x) : Ri S2 w A l := by
  obtain ⟨vs, h1, h2, h3⟩ := h
  obtain ⟨A', c', hv, a1, a2, hr, a3⟩ := own_rd h1
  cases hv
  intro j hj
  obtain ⟨u, hu, ho, hk⟩ := h3 j hj
  obtain ⟨a, rfl, hc⟩ := hr j u hu
  have hl := (own_lt h1 a.block rfl)
  have hlo := h2 a.block rfl
  obtain ⟨Aj, cj, rfl, b1, b2, hrj, b3⟩ := own_rd ho.1
  refine ⟨a, Aj, cj, rfl, fun hm => ?_, hc, b1, b3, fun i x hx => ?_⟩
  · rcases hS _ hm with e | e | e
    · exact e.2 rfl
    · omega
    · omega
  · obtain ⟨aj, rfl, hcx⟩ := hrj i x hx
    have h9 := ho.lt (g := aj.block) rfl
    refine ⟨aj, rfl, fun hm => ?_, hcx⟩
    rcases hS _ hm with e | e | e
    · exact (hk _ rfl).1 e.1
    · omega
    · omega
/-- one row more -/
theorem OwnL.snoc {S : List Nat} {w w1 : World} {lo m : Nat} {v v1 u : Value} {l : List (List Int)} {xs : List Int} {vs : List Value} (hm : l.length = m) (h : OwnL S w lo v l) (hvs : w.ownsRow 0 22 1 v m vs)
    (hu : Own 3 .i64 w lo u xs) (hus : ∀ k, u.ownBlock = some k → k ∉ S ∧ v.ownBlock ≠ some k)
    (o1 : w1.ownsRow 0 22 1 v1 (m + 1) (vs ++ [u])) (k1 : Kp v.ownBlock.toList w w1) (a1 : At w.heap.size v.ownBlock v1.ownBlock) (hlo : lo ≤ w.heap.size) : OwnL S w1 lo v1 (l ++ [xs]) := by
  subst hm
  obtain ⟨vs', h1, h2, h3⟩ := h
  have e : vs' = vs := by
    obtain ⟨A, c, hv, _, _, r1, _⟩ := own_rd h1
    obtain ⟨A', c', hv', _, _, r2, _⟩ := own_rd hvs
    rw [hv] at hv'
    cases hv'
    refine List.ext_getElem? fun i => ?_
    by_cases hi : i < l.length
    · have l1 : vs'.length = l.length := by simpa using h1.1
      have l2 : vs.length = l.length := by simpa using hvs.1
      have g1 : vs'[i]? = some vs'[i] := by simp
      have g2 : vs[i]? = some vs[i] := by simp
      obtain ⟨a, ha, c1⟩ := r1 i _ g1
      obtain ⟨a', ha', c2⟩ := r2 i _ g2
      rw [ha] at ha'
      cases ha'
      rw [g1, g2, ← c1, c2]
    · have l1 : vs'.length = l.length := by simpa using h1.1
      have l2 : vs.length = l.length := by simpa using hvs.1
      rw [List.getElem?_eq_none (by omega), List.getElem?_eq_none (by omega)]
  subst e
  have lv : vs'.length = l.length := by simpa using h1.1
  refine ⟨vs' ++ [u], by simpa using o1, a1.ge hlo h2, fun j hj => ?_⟩
  have hne : ∀ (y : Value) (ys : List Int), Own 3 .i64 w lo y ys → ∀ k, y.ownBlock = some k → v.ownBlock ≠ some k → v1.ownBlock ≠ some k := by
    intro y ys hy k hk hv
    rcases a1 with e | ⟨q, e, hq⟩
    · rw [e]; exact hv
    · rw [e]
      have := (hy.lt hk).2
      intro e2
      have := Option.some.inj e2
      omega
  by_cases hj2 : j < l.length
  · obtain ⟨y, hy, ho, hk⟩ := h3 j hj2
    refine ⟨y, by rw [List.getElem?_append_left (by omega)]; exact hy, ?_, fun k hk2 => ⟨(hk k hk2).1, hne y _ ho k hk2 (hk k hk2).2⟩⟩
    rw [List.getElem_append_left hj2]
    refine ho.kp k1 (fun g hg hm => ?_)
    exact (hk g hg).2 (by simpa using hm)
  · obtain rfl : j = l.length := by simp at hj; omega
    refine ⟨u, by rw [List.getElem?_append_right (by omega)]; simp [lv], ?_, fun k hk2 => ⟨(hus k hk2).1, hne u _ hu k hk2 (hus k hk2).2⟩⟩
    rw [List.getElem_append_right (Nat.le_refl _)]
    simp only [Nat.sub_self, List.getElem_cons_zero]
    refine hu.kp k1 (fun g hg hm => ?_)
    exact (hus g hg).2 (by simpa using hm)
/-- append of one row, which lies in a literal of its own -/
theorem appRow {w : World} {ops : Array Oper} {rest : List Oper} {o : Oper} {a : Act} {Q : Exit → Act → World → Prop} (hgd : o.guard = none) (s x : Operand)
    (ho : o.op = .call { callee := .builtin .append, args := #[s, x], argTypes := #[32, 32] })
    (v : Value) (n : Nat) (xs : List Value) (hs : a.eval s = v) (hown : w.ownsRow 0 22 1 v n xs) (u : Value)
    (hx : a.eval x = .slice (some ⟨w.heap.size, 0, none⟩) 1 1) (hu : u.oneCell' = true) (hm : n + 1 ≤ 5864062014805)
    (h : ∀ v' w', w'.ownsRow 0 22 1 v' (n + 1) (xs ++ [u]) → Kp v.ownBlock.toList (w.alloc (.cells #[u] 22)) w' → At (w.heap.size + 1) v.ownBlock v'.ownBlock →
      wpList Try.prog ops Q rest (a.put o.dst v') w') : wpList Try.prog ops Q (o :: rest) a (w.alloc (.cells #[u] 22)) :=
  wpList_app hgd s x 32 ho 22 (.slice none 0 0) 1 24 Try.underlying32 info_row rfl (by decide) v n xs hs (hown.alloc _) (some ⟨w.heap.size, 0, none⟩) 1 1 [u] hx rfl (rd_one _ _ _) (by simp)
    (by intro y hy; simp only [List.mem_cons, List.not_mem_nil, or_false] at hy; subst hy; exact hu) (by omega) (by omega)
    (fun v' w' h1 h2 h3 _ => h v' w' h1 h2 (by simpa using h3))
/-- append of one number -/
theorem app64_one {w : World} {ops : Array Oper} {rest : List Oper} {o : Oper} {a : Act} {Q : Exit → Act → World → Prop} (hgd : o.guard = none) (s x : Operand)
    (ho : o.op = .call { callee := .builtin .append, args := #[s, x], argTypes := #[22, 22] })
    (v : Value) (n : Nat) (xs : List Value) (hs : a.eval s = v) (hown : w.ownsRow 0 3 1 v n xs) (y : Int)
    (hx : a.eval x = .slice (some ⟨w.heap.size, 0, none⟩) 1 1) (hm : n + 1 ≤ 17592186044416)
    (h : ∀ v' w', w'.ownsRow 0 3 1 v' (n + 1) (xs ++ [.int .i64 y]) → Kp v.ownBlock.toList (w.alloc (.cells #[.int .i64 y] 3)) w' → At (w.heap.size + 1) v.ownBlock v'.ownBlock →
      wpList Try.prog ops Q rest (a.put o.dst v') w') : wpList Try.prog ops Q (o :: rest) a (w.alloc (.cells #[.int .i64 y] 3)) :=
  opk.app64 hgd s x ho v n xs hs (hown.alloc _) (some ⟨w.heap.size, 0, none⟩) 1 1 [.int .i64 y] hx rfl (rd_one _ _ _) (by simp) (by simp [Value.oneCell']) hm
    (fun v' w' h1 h2 h3 => h v' w' h1 h2 (by simpa using h3))
end Go.Proofs.Ytiabdeciadfiiaa.H
namespace Go.Proofs.Ytiabdeciadfiiaa.clone
open Go.RowKit H
set_option maxHeartbeats 1000000 in
theorem ints_any (A : Option Addr) (n c : Nat) (xs : List Int) (w : World) (hn : xs.length = n) (h0 : Rd w A (iv .i64 xs)) (hnil : A = none → c = 0) (hb : n ≤ 17592186044416) :
    Calls Try.prog 72 #[.slice A n c] w (RetOwn 3 .i64 w xs) := by
  subst hn
  have H0 := As.mk h0
  have HN := As.mk hnil
  clear h0 hnil
  cases A with
  | none =>
    have hx : xs = [] := iv_nil (rd_nil_of_none H0.out)
    subst hx
    have hc := HN.out rfl
    subst hc
    have hq := fun (w : World) => Lib.run_eql_slice_nil (P := Try.prog) w 22 3 none 0 0 0 0 Try.underlying22
    go_enter Try.func72, Try.ntmps72
    go_wp2
    go_ret
    exact ⟨_, rfl, Own.nil _ _ _ _, Kp.refl _ _⟩
  | some a =>
    have hq := fun (w : World) => Lib.run_eql_slice_nil (P := Try.prog) w 22 3 (some a) xs.length c 0 0 Try.underlying22
    go_enter Try.func72, Try.ntmps72
    go_wp2_with (at_builtin; refine opk.app64 rfl (.tmp 5) (.tmp 6) rfl (.slice (some ⟨w.heap.size, 0, none⟩) 0 0) 0 [] rfl (own_new w [] _ (Nat.zero_le _)) (some a) xs.length c (iv .i64 xs) rfl (iv_len _ _) (((Kp.refl [] w).alloc _).rd_new H0.out (by simp)) (by simp) (iv_one _ _) (by omega) ?_; intro v' w1 hown hk hat; have HO := As.mk hown; have HK := As.mk hk; have HA := As.mk hat; clear hown hk hat)
    go_ret
    exact ⟨v', rfl, ⟨by simpa using HO.out, HA.out.ge (by simp) (by simp [Value.ownBlock])⟩, ((Kp.refl [] w).alloc _).trans HK.out (by simp [Value.ownBlock])⟩
set_option maxHeartbeats 1000000 in
/-- slices.Clone of rows: the same rows in a new row -/
theorem rows_any (A : Option Addr) (n c : Nat) (vs : List Value) (w : World) (hn : vs.length = n) (h0 : Rd w A vs) (h1 : ∀ u ∈ vs, u.oneCell' = true) (hnil : A = none → c = 0) (hb : n ≤ 5864062014805) :
    Calls Try.prog 71 #[.slice A n c] w fun e w' => ∃ v, e = .returned v ∧ w'.ownsRow 0 22 1 v n vs ∧ (∀ g, v.ownBlock = some g → w.heap.size ≤ g) ∧ Kp [] w w' := by
  subst hn
  have H0 := As.mk h0
  have HN := As.mk hnil
  have H1 := As.mk h1
  clear h0 hnil h1
  cases A with
  | none =>
    have hx : vs = [] := rd_nil_of_none H0.out
    subst hx
    have hc := HN.out rfl
    subst hc
    have hq := fun (w : World) => Lib.run_eql_slice_nil (P := Try.prog) w 32 22 none 0 0 0 0 Try.underlying32
    go_enter Try.func71, Try.ntmps71
    go_wp2
    go_ret
    exact ⟨_, rfl, World.ownsRow_nil _ 0 _ 1, by simp [Value.ownBlock], Kp.refl _ _⟩
  | some a =>
    have hq := fun (w : World) => Lib.run_eql_slice_nil (P := Try.prog) w 32 22 (some a) vs.length c 0 0 Try.underlying32
    go_enter Try.func71, Try.ntmps71
    go_wp2_with (at_builtin; refine wpList_app rfl (.tmp 5) (.tmp 6) 32 rfl 22 (.slice none 0 0) 1 24 Try.underlying32 info_row rfl (by decide) (.slice (some ⟨w.heap.size, 0, none⟩) 0 0) 0 [] rfl (own_new w [] _ (Nat.zero_le _)) (some a) vs.length c vs rfl (by simp) (((Kp.refl [] w).alloc _).rd_new H0.out (by simp)) (by simp) H1.out (by omega) (by omega) ?_; intro v' w1 hown hk hat _; have HO := As.mk hown; have HK := As.mk hk; have HA := As.mk hat; clear hown hk hat)
    go_ret
    exact ⟨v', rfl, by simpa using HO.out, HA.out.ge (by simp) (by simp [Value.ownBlock]), ((Kp.refl [] w).alloc _).trans HK.out (by simp [Value.ownBlock])⟩
end Go.Proofs.Ytiabdeciadfiiaa.clone
