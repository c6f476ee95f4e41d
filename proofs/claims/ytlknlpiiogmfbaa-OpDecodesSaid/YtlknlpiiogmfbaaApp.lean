/- append onto a row of the call's own, whatever is appended (nil, empty or not): the row's place afterwards is the old one or a new one. -/
import Derived.Test.YtlknlpiiogmfbaaHeap
import Derived.WalkSpells
namespace Go.Proofs.Ytlknlpiiogmfbaa.H
open Go.RowKit

theorem run_app {P : Program} (w : World) (t ty e : TypeId) (z : Value) (size bytes : Nat) (ht : P.underlying t = some (.slice e))
    (hI : (P.info? e).map (fun i => (i.zero, i.size, i.bytes)) = some (some z, size, bytes)) (hzs : z.cells.size = size) (hsz : 0 < size)
    (v : Value) (n : Nat) (xs : List Value) (hown : w.ownsRow 0 e size v n xs)
    (A : Option Addr) (m c : Nat) (news : List Value) (hl : news.length = m * size) (hrd : Rd w A news) (hnil : A = none → c = 0) (h1 : ∀ u ∈ news, u.oneCell' = true)
    (hb : (n + m) * bytes ≤ 140737488355328) (hm : n + m ≤ 140737488355328) :
    ∃ v' w', (Builtin.append_ #[t, t] ty #[v, .slice A m c]).run P w = .ok v' w' ∧ w'.ownsRow 0 e size v' (n + m) (xs ++ news) ∧ Kp v.ownBlock.toList w w' ∧
      At w.heap.size v.ownBlock v'.ownBlock ∧ (v' = .slice none 0 0 → v = .slice none 0 0) := by
  obtain ⟨i, hi, hz, hs, hby⟩ := info_parts hI
  have h63 : n + m ≤ maxLen := by unfold maxLen; omega
  cases A with
  | none =>
    have hc := hnil rfl
    have hn0 : news = [] := by
      cases news with
      | nil => rfl
      | cons x r => obtain ⟨a, ha, _⟩ := hrd 0 x rfl; cases ha
    subst hn0
    have hm0 : m = 0 := by
      rcases Nat.eq_zero_or_pos m with h | h
      · exact h
      · have : 0 < m * size := Nat.mul_pos h hsz
        simp at hl
        omega
    subst hm0 hc
    exact ⟨v, w, run_append_owned_none w 0 t ty e i size ht hi v n xs hown, by simpa using hown, Kp.refl _ _, At.refl _ _, fun h => h⟩
  | some a =>
    have hnews : ∀ j u, news[j]? = some u → w.cell? (a.add j) = some u := by
      intro j u hu
      obtain ⟨a', ha, hc⟩ := hrd j u hu
      cases ha
      exact hc
    obtain ⟨v', w', hr, h2, h3, h4⟩ := run_append_own (P := P) w 0 t ty e i z size bytes ht hi hz hs hby hzs hsz v n xs hown a m c news hl hnews h1 h63 hb (Nat.zero_le _)
    refine ⟨v', w', hr, h2, (Kp.refl _ w).grown h3 (fun k hk => .inl (by simp [hk])), ?_, fun h => (h4.1 h).1⟩
    rcases hown.2 with ⟨rfl, rfl⟩ | ⟨g, cap, cur, rfl, hbg, hg, hnc, hcm, hcs, htake⟩
    · rcases Nat.eq_zero_or_pos m with hm0 | hm0
      · rw [h4.2 ⟨rfl, hm0⟩]
        exact .inl rfl
      · have hr2 := run_append_nil (P := P) w t ty e i z ht hi hz a m c news (by rw [hs]; exact hl) hnews hm0 (by omega) (by rw [hby]; have := hb; simp only [Nat.zero_add] at this; omega)
        rw [hr2] at hr
        injection hr with e1 e2
        subst e1
        exact .inr ⟨_, rfl, Nat.le_refl _⟩
    · by_cases hroom : n + m ≤ cap
      · obtain ⟨w2, hr2, _⟩ := run_append_fits (P := P) w 0 t ty e i size ht hi hs g n cap xs hown a m c news hl hnews h1 hroom
        rw [hr2] at hr
        injection hr with e1 e2
        subst e1
        exact .inl rfl
      · have hr2 := run_append_grow (P := P) w t ty e i z ht hi hz ⟨g, 0, none⟩ n cap xs (by rw [hs]; exact hown.1) (hown.cells (g := g) rfl) a m c news (by rw [hs]; exact hl) hnews (by omega) (by omega)
          (growslice_fits (by omega) (by rw [hby]; exact hb))
        rw [hr2] at hr
        injection hr with e1 e2
        subst e1
        exact .inr ⟨_, rfl, Nat.le_refl _⟩

theorem wpList_app {P : Program} {w : World} {ops : Array Oper} {rest : List Oper} {o : Oper} {a : Act} {Q : Exit → Act → World → Prop} (hgd : o.guard = none) (s x : Operand) (t : TypeId)
    (ho : o.op = .call { callee := .builtin .append, args := #[s, x], argTypes := #[t, t] }) (e : TypeId) (z : Value) (size bytes : Nat) (ht : P.underlying t = some (.slice e))
    (hI : (P.info? e).map (fun i => (i.zero, i.size, i.bytes)) = some (some z, size, bytes)) (hzs : z.cells.size = size) (hsz : 0 < size)
    (v : Value) (n : Nat) (xs : List Value) (hs : a.eval s = v) (hown : w.ownsRow 0 e size v n xs)
    (A : Option Addr) (m c : Nat) (news : List Value) (hx : a.eval x = .slice A m c) (hl : news.length = m * size) (hrd : Rd w A news) (hnil : A = none → c = 0) (h1 : ∀ u ∈ news, u.oneCell' = true)
    (hb : (n + m) * bytes ≤ 140737488355328) (hm : n + m ≤ 140737488355328)
    (h : ∀ v' w', w'.ownsRow 0 e size v' (n + m) (xs ++ news) → Kp v.ownBlock.toList w w' → At w.heap.size v.ownBlock v'.ownBlock → (v' = .slice none 0 0 → v = .slice none 0 0) →
      wpList P ops Q rest (a.put o.dst v') w') : wpList P ops Q (o :: rest) a w := by
  refine wpList_plain hgd fun K hK => ?_
  obtain ⟨v', w', hr, h2, h3, h4, h5⟩ := run_app (P := P) w t o.type e z size bytes ht hI hzs hsz v n xs hown A m c news hl hrd hnil h1 hb hm
  unfold Oper.wp execOp
  simp only [ho, resolve, invoke, builtin, Sem.run_bind, Sem.run_pure, Result.andThen_ok, List.map_toArray, List.map_cons, List.map_nil, hs, hx, hr]
  exact hK _ _ (h v' w' h2 h3 h4 h5)

theorem or128_fin : ∀ b : Fin 256, bits .or .u8 ((b.val : Nat) : Int) 128 = ((b.val % 128 + 128 : Nat) : Int) := by decide +kernel
theorem or128 (u : Nat) : bits .or .u8 ((u : Int) % 256) 128 = (u : Int) % 128 + 128 := by
  have h := or128_fin ⟨u % 256, Nat.mod_lt _ (by decide)⟩
  have e1 : (((u % 256 : Nat)) : Int) = (u : Int) % 256 := by omega
  have e2 : ((u % 256 % 128 + 128 : Nat) : Int) = (u : Int) % 128 + 128 := by omega
  simp only [e1, e2] at h
  exact h

theorem and127 (y : Int) (h0 : 0 ≤ y) (h1 : y < 256) : bits .and .u8 y 127 = y % 128 := bits_mask .u8 8 (by decide) wraps_u8 7 (by decide) y h0 h1
theorem wraps_u64 (n : Int) (h0 : 0 ≤ n) (h1 : n < 2 ^ 63) : IntKind.u64.wrap n = n := by rw [IntKind.wrap_u64]; omega
theorem or_comm' (k : IntKind) (a b : Int) : bits .or k a b = bits .or k b a := by simp only [bits, BitVec.or_comm]
theorem and127_u64 (u : Nat) (h : u ≤ 4611686018427387904) : bits .and .u64 (u : Int) 127 = (u : Int) % 128 := bits_mask .u64 63 (by decide) wraps_u64 7 (by decide) u (by omega) (by omega)
theorem or128' (u : Nat) (h : u ≤ 4611686018427387904) : bits .or .u8 (bits .and .u64 (u : Int) 127 % 256) 128 = (u : Int) % 128 + 128 := by
  rw [and127_u64 u h]
  have := or128 (u % 128)
  have e : ((u % 128 : Nat) : Int) = (u : Int) % 128 := by omega
  rw [e] at this
  rw [this]
  omega
/-- A digit more of a number. -/
theorem num_bits (u k : Nat) (y : Int) (h0 : 0 ≤ y) (h1 : y < 256) (hk : k ≤ 8) (hu : u < 128 ^ k) :
    bits .or .u64 (u : Int) (IntKind.u64.wrap (IntKind.u64.wrap (bits .and .u8 y 127) * 2 ^ (7 * k))) = ((u + y.toNat % 128 * 128 ^ k : Nat) : Int) := by
  have hp : (2 : Nat) ^ (7 * k) = 128 ^ k := by rw [Nat.pow_mul]
  have hpi : (2 : Int) ^ (7 * k) = ((128 ^ k : Nat) : Int) := by rw [← hp]; simp
  have hle : (128 : Nat) ^ k ≤ 128 ^ 8 := Nat.pow_le_pow_right (by decide) hk
  have h8 : (128 : Nat) ^ 8 = 72057594037927936 := by decide
  have e1 : IntKind.u64.wrap (y % 128) = ((y.toNat % 128 : Nat) : Int) := by rw [wraps_u64 _ (by omega) (by omega)]; omega
  have hm : y.toNat % 128 * 128 ^ k < 9223372036854775808 := by
    have : y.toNat % 128 * 128 ^ k ≤ 127 * 72057594037927936 := Nat.mul_le_mul (by omega) (by omega)
    omega
  have e2 : ((y.toNat % 128 : Nat) : Int) * ((128 ^ k : Nat) : Int) = ((y.toNat % 128 * 128 ^ k : Nat) : Int) := by rw [Int.natCast_mul]
  rw [and127 y h0 h1, e1, hpi, e2, wraps_u64 _ (by omega) (by omega), or_comm',
    bits_join .u64 63 (by decide) wraps_u64 (7 * k) _ _ (by omega) (by rw [hpi, ← e2]; exact Int.mul_emod_left _ _) (by omega) (by omega) (by rw [hpi]; omega) (by omega)]
  omega

/-- one cell, newly laid -/
theorem rd_one (w : World) (u : Value) (t : TypeId) : Rd (w.alloc (.cells #[u] t)) (some ⟨w.heap.size, 0, none⟩) [u] := by
  intro j v hv
  match j, hv with
  | 0, hv => simp at hv; subst hv; exact ⟨_, rfl, by simp [Addr.add]⟩
theorem rd_new (w : World) (us : List Value) (t : TypeId) : Rd (w.alloc (.cells us.toArray t)) (some ⟨w.heap.size, 0, none⟩) us := by
  intro j v hv
  refine ⟨_, rfl, ?_⟩
  rw [Addr.add_lit, World.cell?_alloc_new]
  simpa using hv
/-- a row of the call's own, newly laid -/
theorem own_new (w : World) (us : List Value) (e : TypeId) (hl : us.length ≤ maxLen) : (w.alloc (.cells us.toArray e)).ownsRow 0 e 1 (.slice (some ⟨w.heap.size, 0, none⟩) us.length us.length) us.length us := by
  have := World.ownsRow_lit (base := 0) (e := e) (size := 1) w us.toArray us.length (Nat.zero_le _) hl (by simp)
  simpa using this

end Go.Proofs.Ytlknlpiiogmfbaa.H
