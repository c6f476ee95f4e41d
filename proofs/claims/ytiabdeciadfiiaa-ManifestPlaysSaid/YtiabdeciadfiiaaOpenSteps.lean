/- An argument that is a []haystacklaw21.Step, opened. -/
import Derived.Test.YtiabdeciadfiiaaManY
import Derived.Test.YtiabdeciadfiiaaBase
import Derived.Deep.Fields
import Derived.Deep.Slices
namespace Go.Proofs.Ytiabdeciadfiiaa.haystacklaw21
open Go.ChangeShapes Go.WideShapes Go.ChangeAt Go.RowKit Go.Deep H O

section
variable {H : Type} {enc : TypeId × Value → H} {W : World}

theorem st_slice {P : Program} {t e : TypeId} {fuel : Nat} {v : Value} {x : DataW H × List MemPlace} (ht : P.underlying t = some (.slice e)) (h : DataW.trod enc P W 0 (fun _ => true) true fuel t [v] = some x) : ∃ A n c, v = .slice A n c := by
  rcases open_slice ht h with ⟨hcs, _⟩ | ⟨a, l, cp, m, k, D, Pl, hcs, _⟩
  · cases hcs
    exact ⟨_, _, _, rfl⟩
  · cases hcs
    exact ⟨_, _, _, rfl⟩
theorem st_rows {t e q : TypeId} {P : Program} {A : Option Addr} {n c fuel : Nat} {x : DataW H × List MemPlace} (ht : P.underlying t = some (.slice e)) (he : P.underlying e = some (.slice q)) (hq : P.underlying q = some (.int .i64))
    (ce : P.cellsOf e = 1) (cq : P.cellsOf q = 1) (hf : DataW.trod enc P W 0 (fun _ => true) true fuel t [.slice A n c] = some x) :
    ∃ l : List (List Int), l.length = n ∧ Ri [] W A l ∧ n ≤ 9223372036854775807 ∧ ∀ x ∈ l, x.length ≤ 9223372036854775807 := by
  rcases open_int_rows ht he hq ce cq hf with ⟨hcs, _⟩ | ⟨x, l, cp, B, L, C, Z, hcs, _, hl, hm, hx, hr⟩
  · simp at hcs
    obtain ⟨rfl, rfl, rfl⟩ := hcs
    exact ⟨[], rfl, fun j hj => absurd hj (by simp), by omega, by simp⟩
  · simp at hcs
    obtain ⟨rfl, rfl, rfl⟩ := hcs
    have hm' : c ≤ 9223372036854775807 := hm
    refine ⟨(List.range n).map fun j => (Z j).take (L j), by simp, ?_, by omega, ?_⟩
    · intro j hj
      have hjn : j < n := by simpa using hj
      obtain ⟨h1, h2, h3, h4, h5, h6, h7⟩ := hr j (by omega)
      have hlen : ((Z j).take (L j)).length = L j := by rw [List.length_take]; omega
      refine ⟨x, B j, C j, rfl, by simp, ?_, ?_, h6, ?_⟩
      · rw [h1]; simp [hlen]
      · simpa [hlen] using h2
      · intro i v hv
        have hv' : (iv .i64 ((Z j).take (L j)))[i]? = some v := by simpa using hv
        have hi : i < L j := by
          have := (List.getElem?_eq_some_iff.1 hv').1
          rw [iv_len, hlen] at this
          exact this
        cases hB : B j with
        | none => have := h6 hB; omega
        | some a' =>
          refine ⟨a', rfl, by simp, ?_⟩
          rw [(h7 a' hB).2 i (by omega), ← hv']
          simp [iv, hi, show i < (Z j).length by omega]
    · intro y hy
      obtain ⟨j, hj, rfl⟩ := List.mem_map.1 hy
      obtain ⟨h1, h2, h3, h4, h5, h6, h7⟩ := hr j (by have := List.mem_range.1 hj; omega)
      rw [List.length_take]
      have h3' : C j ≤ 9223372036854775807 := h3
      omega
theorem st_weights {P : Program} {e : TypeId} : ∀ {l : List (DataW H)} {d : DataW H}, d ∈ l → ∀ n ∈ d.weights P e, n ∈ DataW.weightsAll P e l
  | d' :: r, d, hd, n, hn => by
    simp only [DataW.weightsAll, List.mem_append]
    rcases List.mem_cons.1 hd with rfl | h
    · exact Or.inl hn
    · exact Or.inr (st_weights h n hn)

set_option maxRecDepth 100000 in
theorem open_step {fuel : Nat} {cs : List Value} {x : DataW H × List MemPlace} (hf : DataW.trod enc Try.prog W 0 (fun _ => true) true fuel 57 cs = some x) :
    ∃ (s : Stp) (AL : Option Addr) (cL : Nat) (AN : Option Addr) (cN : Nat) (AB : Option Addr) (cB : Nat), cs = [.int .i64 s.kind, .int .i64 s.n, .int .i64 s.shard, .int .i64 s.off, .slice AL s.lists.length cL, .slice AN s.nodes.length cN, .slice AB s.b.length cB] ∧
      Ri [] W AL s.lists ∧ (Rd W AN (iv .i64 s.nodes) ∧ (AN = none → cN = 0)) ∧ (Rd W AB (iv .u8 s.b) ∧ s.b.length ≤ cB ∧ cB ≤ 9223372036854775807 ∧ (AB = none → cB = 0)) ∧
      ((∀ m ∈ x.1.weights Try.prog 57, m ≤ reachBytes) → StpOk s) := by
  obtain ⟨xs, n, rfl, hx, hlen, hxl, hfd⟩ := DataW.trod_struct Try.underlying57 hf
  have hc7 : Try.prog.cellsOf 57 = 7 := by kernel_rfl
  have hone := hone_of (P := Try.prog) (fs := #[{ name := "Kind", type := 3, offset := 0, embedded := false, tag := "", pkgPath := "", byteOffset := 0 }, { name := "N", type := 3, offset := 1, embedded := false, tag := "", pkgPath := "", byteOffset := 8 }, { name := "Shard", type := 3, offset := 2, embedded := false, tag := "", pkgPath := "", byteOffset := 16 }, { name := "Off", type := 3, offset := 3, embedded := false, tag := "", pkgPath := "", byteOffset := 24 }, { name := "Lists", type := 32, offset := 4, embedded := false, tag := "", pkgPath := "", byteOffset := 32 }, { name := "Nodes", type := 22, offset := 5, embedded := false, tag := "", pkgPath := "", byteOffset := 56 }, { name := "B", type := 26, offset := 6, embedded := false, tag := "", pkgPath := "", byteOffset := 80 }]) (by kernel_rfl)
  rw [hc7] at hlen
  match cs, hlen with
  | [v0, v1, v2, v3, v4, v5, v6], _ =>
    match xs, hxl with
    | [y0, y1, y2, y3, y4, y5, y6], _ =>
      have g0 := hfd 0 _ rfl
      have g1 := hfd 1 _ rfl
      have g2 := hfd 2 _ rfl
      have g3 := hfd 3 _ rfl
      have g4 := hfd 4 _ rfl
      have g5 := hfd 5 _ rfl
      have g6 := hfd 6 _ rfl
      rw [(hone 0 _ rfl).2] at g0
      rw [(hone 1 _ rfl).2] at g1
      rw [(hone 2 _ rfl).2] at g2
      rw [(hone 3 _ rfl).2] at g3
      rw [(hone 4 _ rfl).2] at g4
      rw [(hone 5 _ rfl).2] at g5
      rw [(hone 6 _ rfl).2] at g6
      simp at g0 g1 g2 g3 g4 g5 g6
      obtain ⟨k0, hk0, _, wk0⟩ := DataW.trod_int Try.underlying3 g0
      obtain ⟨k1, hk1, _, wk1⟩ := DataW.trod_int Try.underlying3 g1
      obtain ⟨k2, hk2, _, wk2⟩ := DataW.trod_int Try.underlying3 g2
      obtain ⟨k3, hk3, _, wk3⟩ := DataW.trod_int Try.underlying3 g3
      obtain ⟨AL, nL, cL, rfl⟩ := st_slice Try.underlying32 g4
      obtain ⟨AN, nN, cN, rfl⟩ := st_slice Try.underlying22 g5
      obtain ⟨AB, nB, cB, rfl⟩ := st_slice Try.underlying26 g6
      cases hk0
      cases hk1
      cases hk2
      cases hk3
      obtain ⟨L, hL, hLr, hL9, hLx⟩ := st_rows Try.underlying32 Try.underlying22 Try.underlying3 (by kernel_rfl) (by kernel_rfl) g4
      obtain ⟨z5, zp5⟩ := y5
      obtain ⟨z6, zp6⟩ := y6
      have T5 : DataW.Trod enc Try.prog W 0 (fun _ => true) true 22 (.slice AN nN cN) z5 zp5 := ⟨n, by simpa [Value.cells] using g5⟩
      have T6 : DataW.Trod enc Try.prog W 0 (fun _ => true) true 26 (.slice AB nB cB) z6 zp6 := ⟨n, by simpa [Value.cells] using g6⟩
      obtain ⟨NO, hN, hNr, hNc, hNm, hNn, _⟩ := open_nums Try.underlying22 Try.underlying3 (by kernel_rfl) T5
      obtain ⟨BB, hB, hBr, hBc, hBm, hBn, hBw⟩ := open_nums Try.underlying26 Try.underlying5 (by kernel_rfl) T6
      subst hL hN hB
      refine ⟨⟨k0, k1, k2, k3, L, NO, BB⟩, AL, cL, AN, cN, AB, cB, rfl, hLr, ⟨hNr, hNn⟩, ⟨hBr, hBc, hBm, hBn⟩, ?_⟩
      intro hw
      have hin : (DataW.weightsEach Try.prog [3, 3, 3, 3, 32, 22, 26] [y0.1, y1.1, y2.1, y3.1, y4.1, z5, z6]).all (· ≤ reachBytes) = true := by
        refine List.all_eq_true.2 fun q hq => decide_eq_true (hw q ?_)
        rw [hx]
        simp only [DataW.weights, Try.underlying57]
        simpa using hq
      have s2 := sized_slice' hin (j := 6) (t := 26) (B := 1) rfl rfl Try.underlying26 (by kernel_rfl) T6
      exact ⟨⟨hL9, hLx⟩, by show NO.length ≤ _; omega, ⟨by show BB.length ≤ _; omega, fun x hx => wf_u8 (hBw x hx)⟩, wf_i64 wk0, wf_i64 wk1, wf_i64 wk2, wf_i64 wk3⟩

instance : Inhabited Stp := ⟨⟨0, 0, 0, 0, [], [], []⟩⟩
set_option maxRecDepth 100000 in
theorem open_steps {A : Option Addr} {n c : Nat} {d : DataW H} {ps : List MemPlace} (h : DataW.Trod enc Try.prog W 0 (fun _ => true) true 51 (.slice A n c) d ps) :
    ∃ l : List Stp, l.length = n ∧ SRd W A l ∧ n ≤ 9223372036854775807 ∧
      ∀ (ts : List TypeId) (ds : List (DataW H)) (j : Nat), (DataW.weightsEach Try.prog ts ds).all (· ≤ reachBytes) = true → ts[j]? = some 51 → ds[j]? = some d → ∀ s ∈ l, StpOk s := by
  obtain ⟨fuel, hf⟩ := h
  have hc7 : Try.prog.cellsOf 57 = 7 := by kernel_rfl
  rcases open_slice Try.underlying51 hf with ⟨hcs, _⟩ | ⟨a, l, cp, m, k, D, Pl, hcs, _, hl, hm, hmm, hx, he⟩
  · simp [Value.cells] at hcs
    obtain ⟨rfl, rfl, rfl⟩ := hcs
    exact ⟨[], rfl, fun j hj => absurd hj (by simp), by omega, by simp⟩
  · simp [Value.cells] at hcs
    obtain ⟨rfl, rfl, rfl⟩ := hcs
    simp only [if_true] at hmm
    have hm' : c ≤ 9223372036854775807 := hm
    subst hmm
    rw [hc7] at he
    have each : ∀ i, i < n → ∃ s : Stp, a.spot = none ∧ StpAt W a.block (a.off + i * 7) s ∧ ((∀ m ∈ (D i).weights Try.prog 57, m ≤ reachBytes) → StpOk s) := by
      intro i hi
      obtain ⟨cs, h1, h2⟩ := he i (by omega)
      obtain ⟨s, AL, cL, AN, cN, AB, cB, rfl, q1, q2, q3, q4⟩ := open_step h2
      obtain ⟨_, _, hcell⟩ := World.cells?_some h1
      have hsp : a.spot = none := by
        have e0 := World.cell?_spot (hcell 0 (by omega))
        by_cases h0 : i = 0
        · subst h0; simpa [Addr.add] using e0
        · obtain ⟨cs0, g1, g2⟩ := he 0 (by omega)
          obtain ⟨_, _, _, _, _, _, _, rfl, _⟩ := open_step g2
          obtain ⟨_, _, gc⟩ := World.cells?_some g1
          simpa [Addr.add] using World.cell?_spot (gc 0 (by omega))
      obtain ⟨b, o, sp⟩ := a
      cases hsp
      have cell : ∀ j v, j < 7 → ([.int .i64 s.kind, .int .i64 s.n, .int .i64 s.shard, .int .i64 s.off, .slice AL s.lists.length cL, .slice AN s.nodes.length cN, .slice AB s.b.length cB] : List Value)[j]? = some v → W.cell? ⟨b, o + i * 7 + j, none⟩ = some v := by
        intro j v hj hv
        have := hcell j hj
        rw [hv, add_add, add_plain] at this
        rw [Nat.add_assoc]
        exact this
      refine ⟨s, rfl, ⟨⟨cell 0 _ (by omega) rfl, cell 1 _ (by omega) rfl, cell 2 _ (by omega) rfl, cell 3 _ (by omega) rfl⟩, ⟨AL, cL, cell 4 _ (by omega) rfl, q1⟩, ⟨AN, cN, cell 5 _ (by omega) rfl, q2⟩, ⟨AB, cB, cell 6 _ (by omega) rfl, q3⟩⟩, q4⟩
    obtain ⟨f, hfs⟩ := choose_lt each
    refine ⟨(List.range n).map f, by simp, ?_, by omega, ?_⟩
    · intro i hi
      have hin : i < n := by simpa using hi
      obtain ⟨h1, h2, _⟩ := hfs i hin
      refine ⟨a.block, a.off, ?_, ?_⟩
      · obtain ⟨b, o, sp⟩ := a
        cases h1
        rfl
      · rw [List.getElem_map, List.getElem_range]
        exact h2
    · intro ts ds j hw ht hd s hs
      obtain ⟨i, hi, rfl⟩ := List.mem_map.1 hs
      have hin : i < n := by simpa using hi
      refine (hfs i hin).2.2 fun q hq => ?_
      have hd' := (Prod.mk.inj hx).1
      have hmem : D i ∈ (List.range n).map D := List.mem_map.2 ⟨i, by simpa using hin, rfl⟩
      have hin2 : q ∈ DataW.weights Try.prog 51 d := by
        rw [hd']
        simp only [DataW.weights, Try.underlying51, List.mem_cons, List.mem_append]
        exact .inr (.inl (st_weights hmem _ hq))
      exact of_decide_eq_true (List.all_eq_true.1 hw _ (DataW.weights_mem_each ht hd _ hin2))
end
end Go.Proofs.Ytiabdeciadfiiaa.haystacklaw21
