/- An argument that is a []api.Match, opened. -/
import Derived.Test.YtlknlpiiogmfbaaOpen
import Derived.Test.YtlknlpiiogmfbaaProg
import Derived.Test.YtlknlpiiogmfbaaMatP
import Derived.Deep.SlicePairs
namespace Go.Proofs.Ytlknlpiiogmfbaa.H
open Go.ChangeShapes Go.WideShapes Go.ChangeAt Go.RowKit Go.Deep opk

section
variable {H : Type} {enc : TypeId × Value → H} {W : World}

theorem ms_weights {P : Program} {e : TypeId} : ∀ {l : List (DataW H)} {d : DataW H}, d ∈ l → ∀ n ∈ d.weights P e, n ∈ DataW.weightsAll P e l
  | d' :: r, d, hd, n, hn => by
    simp only [DataW.weightsAll, List.mem_append]
    rcases List.mem_cons.1 hd with rfl | h
    · exact Or.inl hn
    · exact Or.inr (ms_weights h n hn)
def strOf : Value → ByteArray
  | .string s => s
  | _ => ⟨#[]⟩
def intOf1 : Value → Int
  | .int _ n => n
  | _ => 0
theorem open_ms {A : Option Addr} {n c : Nat} {d : DataW H} {ps : List MemPlace} (h : DataW.Trod enc Try.prog W 0 (fun _ => true) true 58 (.slice A n c) d ps) :
    ∃ ms : List (ByteArray × Int), ms.length = n ∧ Rd W A (mv ms) ∧ n ≤ c ∧ c ≤ 9223372036854775807 ∧ (A = none → c = 0) ∧ (∀ x ∈ ms, (Lit.int .i64 x.2).wf = true) ∧
      ∀ (ts : List TypeId) (ds : List (DataW H)) (j : Nat), (DataW.weightsEach Try.prog ts ds).all (· ≤ reachBytes) = true → ts[j]? = some 58 → ds[j]? = some d → (∀ x ∈ ms, x.1.size ≤ 140737488351232) ∧ n * 24 ≤ 140737488351232 := by
  have h' := h
  obtain ⟨fuel, hf⟩ := h
  rcases open_slice_pairs (f0 := { name := "Key", type := 9, offset := 0, embedded := false, tag := "", pkgPath := "", byteOffset := 0 }) (f1 := { name := "At", type := 3, offset := 1, embedded := false, tag := "", pkgPath := "", byteOffset := 16 }) Try.underlying58 Try.underlying60 (by kernel_rfl) rfl rfl (by kernel_rfl) (by kernel_rfl) hf with ⟨hcs, _⟩ | ⟨a, l, cp, m, k, V0, V1, D0, D1, P0, P1, hcs, _, hl, hm, hmm, hx, he⟩
  · simp [Value.cells] at hcs
    obtain ⟨rfl, rfl, rfl⟩ := hcs
    exact ⟨[], rfl, Rd.nil _ _, Nat.le_refl _, by omega, fun _ => rfl, by simp, fun _ _ _ _ _ _ => ⟨by simp, by omega⟩⟩
  · simp [Value.cells] at hcs
    obtain ⟨rfl, rfl, rfl⟩ := hcs
    simp only [if_true] at hmm
    subst hmm
    have key : ∀ i, i < n → V0 i = .string (strOf (V0 i)) ∧ D0 i = .lit (.string (strOf (V0 i)).data.toList) ∧ V1 i = .int .i64 (intOf1 (V1 i)) ∧ (Lit.int .i64 (intOf1 (V1 i))).wf = true := by
      intro i hi
      obtain ⟨_, _, t0, t1⟩ := he i (by omega)
      obtain ⟨s, hs, hs2, _⟩ := DataW.trod_string Try.underlying9 t0
      obtain ⟨z, hz, hz2, wz⟩ := DataW.trod_int Try.underlying3 t1
      simp only [List.cons.injEq, and_true] at hs hz
      rw [hs, hz]
      exact ⟨rfl, (Prod.mk.inj hs2).1, rfl, wz⟩
    refine ⟨(List.range n).map fun i => (strOf (V0 i), intOf1 (V1 i)), by simp, ?_, hl, hm, by simp, ?_, ?_⟩
    · intro j v hv
      have hj : j < n * 2 := by
        have := (List.getElem?_eq_some_iff.1 hv).1
        rw [mv_len] at this
        simpa using this
      refine ⟨a, rfl, ?_⟩
      obtain ⟨i, hi⟩ : ∃ i, i = j / 2 := ⟨_, rfl⟩
      have hin : i < n := by omega
      obtain ⟨c0, c1, _, _⟩ := he i (by omega)
      obtain ⟨k0, _, k1, _⟩ := key i hin
      obtain ⟨g0, g1⟩ := mv_get ((List.range n).map fun i => (strOf (V0 i), intOf1 (V1 i))) i (by simpa using hin)
      have hlist : ((List.range n).map fun i => (strOf (V0 i), intOf1 (V1 i)))[i]'(by simpa using hin) = (strOf (V0 i), intOf1 (V1 i)) := by simp
      rw [hlist] at g0 g1
      by_cases hpar : j = i * 2
      · rw [hpar] at hv ⊢
        rw [g0] at hv
        cases hv
        rw [c0]
        exact congrArg some k0
      · have hpar' : j = i * 2 + 1 := by omega
        rw [hpar'] at hv ⊢
        rw [g1] at hv
        cases hv
        rw [c1]
        exact congrArg some k1
    · intro x hx
      obtain ⟨i, hi, rfl⟩ := List.mem_map.1 hx
      exact (key i (by simpa using hi)).2.2.2
    · intro ts ds j hw ht hd
      refine ⟨?_, sized_slice' hw ht hd Try.underlying58 (by kernel_rfl) h'⟩
      intro x hx'
      obtain ⟨i, hi, rfl⟩ := List.mem_map.1 hx'
      have hin : i < n := by simpa using hi
      have hd' : d = .slice ((List.range n).map fun i => .agg [D0 i, D1 i]) ((List.range (m - n)).map fun j => .agg [D0 (n + j), D1 (n + j)]) := (Prod.mk.inj hx).1
      have hmem : (DataW.agg [D0 i, D1 i] : DataW H) ∈ (List.range n).map fun i => (DataW.agg [D0 i, D1 i] : DataW H) := List.mem_map.2 ⟨i, by simpa using hin, rfl⟩
      have hone : (strOf (V0 i)).data.toList.length ∈ (DataW.agg [D0 i, D1 i] : DataW H).weights Try.prog 60 := by
        simp only [DataW.weights, Try.underlying60]
        rw [(key i hin).2.1]
        simp [DataW.weightsEach, DataW.weights]
      have hin2 : (strOf (V0 i)).data.toList.length ∈ DataW.weights Try.prog 58 d := by
        rw [hd']
        simp only [DataW.weights, Try.underlying58, List.mem_cons, List.mem_append]
        exact .inr (.inl (ms_weights hmem _ hone))
      have := of_decide_eq_true (List.all_eq_true.1 hw _ (DataW.weights_mem_each ht hd _ hin2))
      rw [Array.length_toList] at this
      exact this
end
end Go.Proofs.Ytlknlpiiogmfbaa.H
