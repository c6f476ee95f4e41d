/- An argument that is an api.Op, opened. -/
import Derived.Test.YtlknlpiiogmfbaaOpen
import Derived.Test.YtlknlpiiogmfbaaProg
import Derived.Deep.Fields
namespace Go.Proofs.Ytlknlpiiogmfbaa.H
open Go.ChangeShapes Go.WideShapes Go.ChangeAt Go.RowKit Go.Deep

section
variable {H : Type} {enc : TypeId × Value → H} {W : World}

theorem slice_cells {P : Program} {t e : TypeId} {fuel : Nat} {v : Value} {x : DataW H × List MemPlace} (ht : P.underlying t = some (.slice e)) (h : DataW.trod enc P W 0 (fun _ => true) true fuel t [v] = some x) : ∃ A n c, v = .slice A n c := by
  rcases open_slice ht h with ⟨hcs, _⟩ | ⟨a, l, cp, m, k, D, Pl, hcs, _⟩
  · cases hcs
    exact ⟨_, _, _, rfl⟩
  · cases hcs
    exact ⟨_, _, _, rfl⟩

set_option maxRecDepth 100000 in
theorem open_op {v : Value} {d : DataW H} {ps : List MemPlace} {b0 : Nat} (hval : Value.okWide Try.prog W .any b0 47 v) (h : DataW.Trod enc Try.prog W 0 (fun _ => true) true 47 v d ps) :
    ∃ k cl sq key A n c, v = .agg #[.int .i64 k, .int .i64 cl, .int .i64 sq, .string key, .slice A n c] ∧ (Lit.int .i64 k).wf = true ∧ (Lit.int .i64 cl).wf = true ∧ (Lit.int .i64 sq).wf = true ∧
      (∃ xs : List Int, xs.length = n ∧ Rd W A (iv .u8 xs) ∧ n ≤ c ∧ c ≤ 9223372036854775807 ∧ (A = none → c = 0) ∧ ∀ x ∈ xs, (Lit.int .u8 x).wf = true) ∧
      ∀ (ts : List TypeId) (ds : List (DataW H)) (j : Nat), (DataW.weightsEach Try.prog ts ds).all (· ≤ reachBytes) = true → ts[j]? = some 47 → ds[j]? = some d → key.size ≤ 140737488351232 ∧ n ≤ 140737488351232 := by
  obtain ⟨cs, rfl, hcs⟩ := okWide_struct Try.underlying47 hval
  obtain ⟨fuel, hf⟩ := h
  obtain ⟨xs, n, rfl, hx, hlen, hxl, hfd⟩ := DataW.trod_struct Try.underlying47 hf
  have hc5 : Try.prog.cellsOf 47 = 5 := by kernel_rfl
  have hone := hone_of (P := Try.prog) (fs := #[{ name := "Kind", type := 3, offset := 0, embedded := false, tag := "", pkgPath := "", byteOffset := 0 }, { name := "Client", type := 3, offset := 1, embedded := false, tag := "", pkgPath := "", byteOffset := 8 }, { name := "Seq", type := 3, offset := 2, embedded := false, tag := "", pkgPath := "", byteOffset := 16 }, { name := "Key", type := 9, offset := 3, embedded := false, tag := "", pkgPath := "", byteOffset := 24 }, { name := "Text", type := 22, offset := 4, embedded := false, tag := "", pkgPath := "", byteOffset := 40 }]) (by kernel_rfl)
  rw [hc5] at hcs
  obtain ⟨c⟩ := cs
  match c, hcs with
  | [v0, v1, v2, v3, v4], _ =>
    match xs, hxl with
    | [y0, y1, y2, y3, y4], _ =>
      have g0 := hfd 0 _ rfl
      have g1 := hfd 1 _ rfl
      have g2 := hfd 2 _ rfl
      have g3 := hfd 3 _ rfl
      have g4 := hfd 4 _ rfl
      rw [(hone 0 _ rfl).2] at g0
      rw [(hone 1 _ rfl).2] at g1
      rw [(hone 2 _ rfl).2] at g2
      rw [(hone 3 _ rfl).2] at g3
      rw [(hone 4 _ rfl).2] at g4
      simp [Value.cells] at g0 g1 g2 g3 g4
      obtain ⟨k, hk, hk2, wk⟩ := DataW.trod_int Try.underlying3 g0
      obtain ⟨cl, hcl, hcl2, wcl⟩ := DataW.trod_int Try.underlying3 g1
      obtain ⟨sq, hsq, hsq2, wsq⟩ := DataW.trod_int Try.underlying3 g2
      obtain ⟨key, hkey, hkey2, wkey⟩ := DataW.trod_string Try.underlying9 g3
      obtain ⟨A, m, cp, rfl⟩ := slice_cells Try.underlying22 g4
      cases hk
      cases hcl
      cases hsq
      cases hkey
      obtain ⟨z4, zp4⟩ := y4
      have T4 : DataW.Trod enc Try.prog W 0 (fun _ => true) true 22 (.slice A m cp) z4 zp4 := ⟨n, by simpa [Value.cells] using g4⟩
      refine ⟨k, cl, sq, key, A, m, cp, rfl, wk, wcl, wsq, open_nums Try.underlying22 Try.underlying5 (by kernel_rfl) T4, ?_⟩
      intro ts ds j hw ht hd
      have hin : (DataW.weightsEach Try.prog [3, 3, 3, 9, 22] [y0.1, y1.1, y2.1, y3.1, z4]).all (· ≤ reachBytes) = true := by
        refine List.all_eq_true.2 fun q hq => List.all_eq_true.1 hw q (DataW.weights_mem_each ht hd q ?_)
        obtain ⟨hx1, hx2⟩ := Prod.mk.inj hx
        rw [hx1]
        simp only [DataW.weights, Try.underlying47]
        simpa using hq
      have s1 := sized_string hin (j := 3) (t := 9) (bytes := key.data.toList) rfl (by rw [hkey2]; rfl)
      have s2 := sized_slice' hin (j := 4) (t := 22) (B := 1) rfl rfl Try.underlying22 (by kernel_rfl) T4
      rw [Array.length_toList] at s1
      exact ⟨s1, by omega⟩
end
end Go.Proofs.Ytlknlpiiogmfbaa.H
