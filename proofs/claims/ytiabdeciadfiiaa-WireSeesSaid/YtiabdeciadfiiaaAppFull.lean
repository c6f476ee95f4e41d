/- append onto a row that is full (whoever owns it), or onto one of the call's own: what Join hands back. -/
import Derived.Test.YtiabdeciadfiiaaBase
namespace Go.Proofs.Ytiabdeciadfiiaa.joins
open Go.RowKit H O

theorem run_app_full {P : Program} (w : World) (t ty e : TypeId) (z : Value) (ht : P.underlying t = some (.slice e))
    (hI : (P.info? e).map (fun i => (i.zero, i.size, i.bytes)) = some (some z, 1, 1)) (hzs : z.cells.size = 1)
    (b : Addr) (n : Nat) (xs : List Value) (hxs : xs.length = n) (hrx : Rd w (some b) xs)
    (a : Addr) (m c : Nat) (news : List Value) (hl : news.length = m) (hrd : Rd w (some a) news) (h0 : 0 < m) (hb : n + m ≤ 140737488355328) :
    ∃ v' w', (Builtin.append_ #[t, t] ty #[.slice (some b) n n, .slice (some a) m c]).run P w = .ok v' w' ∧ w'.ownsRow 0 e 1 v' (n + m) (xs ++ news) ∧ Kp [] w w' ∧ v'.ownBlock = some w.heap.size := by
  obtain ⟨i, hi, hz, hs, hby⟩ := info_parts hI
  have g1 : ∀ j u, xs[j]? = some u → w.cell? (b.add j) = some u := by
    intro j u hu
    obtain ⟨a', ha, hc⟩ := hrx j u hu
    cases ha
    exact hc
  have g2 : ∀ j u, news[j]? = some u → w.cell? (a.add j) = some u := by
    intro j u hu
    obtain ⟨a', ha, hc⟩ := hrd j u hu
    cases ha
    exact hc
  have hr := run_append_grow (P := P) w t ty e i z ht hi hz b n n xs (by rw [hs, hxs, Nat.mul_one]) g1 a m c news (by rw [hs, hl, Nat.mul_one]) g2 (by omega) (by omega) (growslice_fits (by omega) (by rw [hby, Nat.mul_one]; exact hb))
  have hge := grownCap_ge w (n + m) n e
  have hcm : grownCap w (n + m) n e ≤ maxLen := grownCap_le_maxLen w (n + m) n e (by unfold maxLen; omega)
  have hlen : (xs ++ news).length = n + m := by rw [List.length_append, hxs, hl]
  refine ⟨_, _, hr, ⟨by rw [hlen, Nat.mul_one], .inr ⟨w.heap.size, _, _, rfl, Nat.zero_le _, heap_alloc_new w.drew _, hge, hcm, ?_, ?_⟩⟩, ?_, rfl⟩
  · simp only [Array.size_append, List.size_toArray, size_zeroCells, hzs, hxs, hl, Nat.mul_one]
    omega
  · simp only [Array.toList_append, List.append_assoc]
    rw [← List.append_assoc, Nat.mul_one, ← hlen]
    exact List.take_left
  · exact ((Kp.refl [] w).drew).alloc _

/-- What Join handed back. -/
def Jd (xs : List Int) (lo : Nat) (w' : World) (v : Value) : Prop :=
  Own 5 .u8 w' lo v xs ∨ ∃ g, v = .slice (some ⟨g, 0, none⟩) xs.length xs.length ∧ lo ≤ g ∧ g < w'.heap.size ∧ Rd w' (some ⟨g, 0, none⟩) (iv .u8 xs)
theorem Jd.lower {xs : List Int} {lo lo' : Nat} {w : World} {v : Value} (h : Jd xs lo w v) (hl : lo' ≤ lo) : Jd xs lo' w v := by
  rcases h with h | ⟨g, h1, h2, h3, h4⟩
  · exact .inl (h.lower hl)
  · exact .inr ⟨g, h1, by omega, h3, h4⟩
theorem Jd.kp {xs : List Int} {lo : Nat} {w w1 : World} {v : Value} (h : Jd xs lo w v) (k : Kp [] w w1) : Jd xs lo w1 v := by
  rcases h with h | ⟨g, h1, h2, h3, h4⟩
  · exact .inl (h.kp k (by simp))
  · exact .inr ⟨g, h1, h2, by have := k.size; omega, k.rd h4 (fun _ _ => by simp)⟩

theorem info8 : (Try.prog.info? 5).map (fun i => (i.zero, i.size, i.bytes)) = some (some (.int .u8 0), 1, 1) := by kernel_rfl
/-- append onto it, of one byte or more -/
theorem app_jd {w0 w : World} {ops : Array Oper} {rest : List Oper} {o : Oper} {a : Act} {Q : Exit → Act → World → Prop} (hgd : o.guard = none) (s x : Operand)
    (ho : o.op = .call { callee := .builtin .append, args := #[s, x], argTypes := #[26, 26] })
    (v : Value) (n : Nat) (xs : List Int) (hn : xs.length = n) (hs : a.eval s = v) (k0 : Kp [] w0 w) (hj : Jd xs w0.heap.size w v)
    (A : Option Addr) (m c : Nat) (news : List Int) (hx : a.eval x = .slice A m c) (hl : news.length = m) (hrd : Rd w A (iv .u8 news)) (hnil : A = none → c = 0) (h0 : 0 < m)
    (hm : n + m ≤ 140737488355328)
    (h : ∀ v' w', w'.ownsRow 0 5 1 v' (n + m) (iv .u8 (xs ++ news)) → (∀ g, v'.ownBlock = some g → w0.heap.size ≤ g) → Kp [] w0 w' →
      wpList Try.prog ops Q rest (a.put o.dst v') w') : wpList Try.prog ops Q (o :: rest) a w := by
  subst hn
  rcases hj with hj | ⟨g, rfl, h1, h2, h3⟩
  · refine clone.app8 hgd s x ho v xs.length (iv .u8 xs) hs hj.1 A m c (iv .u8 news) hx (by rw [iv_len, hl]) hrd hnil (iv_one _ _) hm ?_
    intro v' w' o' k' a'
    rw [← iv_app] at o'
    exact h v' w' o' (a'.ge k0.size (fun g hg => hj.2 g hg)) (k0.row k' (fun g hg => .inr (hj.2 g hg)))
  · obtain ⟨ad, rfl, hlt⟩ := hrd.lt (by rw [iv_len, hl]; exact h0)
    refine wpList_plain hgd fun K hK => ?_
    obtain ⟨v', w', hr, h5, h6, h7⟩ := run_app_full (P := Try.prog) w 26 o.type 5 (.int .u8 0) Try.underlying26 info8 rfl ⟨g, 0, none⟩ xs.length (iv .u8 xs) (iv_len _ _) h3 ad m c (iv .u8 news) (by rw [iv_len, hl]) hrd h0 hm
    unfold Oper.wp execOp
    simp only [ho, resolve, invoke, builtin, Sem.run_bind, Sem.run_pure, Result.andThen_ok, List.map_toArray, List.map_cons, List.map_nil, hs, hx, hr]
    rw [← iv_app] at h5
    refine hK _ _ (h v' w' h5 ?_ (k0.trans h6 (by simp)))
    intro g' hg'
    rw [h7] at hg'
    cases hg'
    exact k0.size
end Go.Proofs.Ytiabdeciadfiiaa.joins
