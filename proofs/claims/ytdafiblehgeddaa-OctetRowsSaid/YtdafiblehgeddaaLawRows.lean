/- The walk of OctetRows: rows as bytes, each with its length, and back. -/
import Derived.Test.YtdafiblehgeddaaKnown1
import Derived.Test.YtdafiblehgeddaaRef2
import Derived.Test.YtdafiblehgeddaaReader2
import Derived.Test.YtdafiblehgeddaaHeavy1
import Derived.Test.YtdafiblehgeddaaTwoW
import Derived.Test.YtdafiblehgeddaaOpen
import Derived.Deep.RegionHeld3
namespace Go.Proofs.Ytdafiblehgeddaa.haystacklaw1
open Go.RowKit H O

/-- What the first loop holds: two Writers, of which the one has laid ys, the other nothing; a row of its own that holds zs; blocks F that are none of these. -/
structure Lay (F : List Nat) (w wr : World) (want : Value) (zs ys : List Int) : Prop where
  kp : Kp [] w wr
  two : w.heap.size + 1 < wr.heap.size
  all : writer.Wr wr (w.heap.size + 1) none []
  own : Own 5 .u8 wr w.heap.size want zs
  off1 : want.ownBlock ≠ some w.heap.size
  off2 : want.ownBlock ≠ some (w.heap.size + 1)
  free : ∀ x ∈ F, x ≠ w.heap.size ∧ x ≠ w.heap.size + 1 ∧ want.ownBlock ≠ some x
  one : ∃ g, writer.Wr wr w.heap.size g ys ∧ (∀ x, g = some x → w.heap.size + 1 < x) ∧ (∀ x, want.ownBlock = some x → g ≠ some x) ∧ ∀ x ∈ F, g ≠ some x

theorem Lay.start (w : World) : Lay [] w ((w.alloc (.cells #[.slice none 0 0] 25)).alloc (.cells #[.slice none 0 0] 25)) (.slice none 0 0) [] [] := by
  have h2 := writer.Wr.new (w.alloc (.cells #[.slice none 0 0] 25))
  have hz : (w.alloc (.cells #[.slice none 0 0] 25)).heap.size = w.heap.size + 1 := by simp
  rw [hz] at h2
  refine ⟨((Kp.refl [] w).alloc _).alloc _, by simp, h2, Own.nil _ _ _ _, by simp [Value.ownBlock], by simp [Value.ownBlock], by simp, none, (writer.Wr.new w).kp ((Kp.refl [] _).alloc _) (by simp) (by simp), by simp, by simp, by simp⟩
/-- Writes to blocks that are free. -/
theorem Lay.skip {F S : List Nat} {w wr w1 : World} {want : Value} {zs ys : List Int} (h : Lay F w wr want zs ys) (k : Kp S wr w1) (hS : ∀ x ∈ S, x ∈ F ∧ w.heap.size ≤ x) : Lay F w w1 want zs ys := by
  obtain ⟨g, o1, o2, o3, o4⟩ := h.one
  have hs := k.size
  refine ⟨h.kp.trans k (fun x hx => .inr (hS x hx).2), by have := h.two; omega, h.all.kp k (fun hm => (h.free _ (hS _ hm).1).2.1 rfl) (by simp),
    h.own.kp k (fun x hx hm => (h.free _ (hS _ hm).1).2.2 hx), h.off1, h.off2, h.free, g, o1.kp k (fun hm => (h.free _ (hS _ hm).1).1 rfl) (fun x hx hm => o4 x (hS _ hm).1 hx), o2, o3, o4⟩
theorem Lay.mono {F G : List Nat} {w wr : World} {want : Value} {zs ys : List Int} (h : Lay F w wr want zs ys) (hG : ∀ x ∈ G, x ∈ F) : Lay G w wr want zs ys := by
  obtain ⟨g, o1, o2, o3, o4⟩ := h.one
  exact ⟨h.kp, h.two, h.all, h.own, h.off1, h.off2, fun x hx => h.free x (hG x hx), g, o1, o2, o3, fun x hx => o4 x (hG x hx)⟩
/-- The row of its own grows. -/
theorem Lay.app {w wr w1 : World} {want v1 : Value} {zs ys us : List Int} {m n : Nat} (h : Lay [] w wr want zs ys) (hm : zs.length = m) (hn : us.length = n) (o : w1.ownsRow 0 5 1 v1 (m + n) (iv .u8 zs ++ iv .u8 us))
    (k : Kp want.ownBlock.toList wr w1) (a : At wr.heap.size want.ownBlock v1.ownBlock) : Lay [] w w1 v1 (zs ++ us) ys := by
  subst hm hn
  obtain ⟨g, o1, o2, o3, o4⟩ := h.one
  have ht := h.two
  have hs := k.size
  have hgl := o1.lt.2
  refine ⟨h.kp.row k (fun x hx => .inr (h.own.2 x hx)), by omega, h.all.kp k (fun hm => h.off2 (by simpa using hm)) (by simp), ⟨by simpa [iv] using o, a.ge h.kp.size h.own.2⟩, a.off (by omega) h.off1, a.off (by omega) h.off2, by simp,
    g, o1.kp k (fun hm => h.off1 (by simpa using hm)) (fun x hx hm => o3 x (by simpa using hm) hx), o2, ?_, by simp⟩
  intro x hx hgx
  rcases a with e | ⟨j, e, hj⟩
  · exact o3 x (by rw [← e]; exact hx) hgx
  · have := hgl x hgx
    rw [e] at hx
    have := Option.some.inj hx
    omega
theorem Lay.spoiled {w w2 w3 w4 : World} {want : Value} {zs ys : List Int} {g9 n c : Nat} (h : Lay [g9] w w2 want zs ys) (k3 : Kp [] w2 w3) (k4 : Kp (Value.slice (some ⟨g9, 0, none⟩) n c).ownBlock.toList w3 w4) (hg : w.heap.size ≤ g9) : Lay [] w w4 want zs ys :=
  ((h.skip k3 (by simp)).skip k4 (fun y hy => by
    have h7 : y = g9 := by simpa [Value.ownBlock] using hy
    subst h7
    exact ⟨by simp, hg⟩)).mono (by simp)
/-- one.Bytes of a row of one's own. -/
theorem Lay.call {w wr w1 : World} {want : Value} {zs ys x : List Int} {g9 n cap : Nat} (h : Lay [] w wr want zs ys) (k : Kp [] wr w1) (o : Own 5 .u8 w1 wr.heap.size (.slice (some ⟨g9, 0, none⟩) (n + 1) cap) (x ++ [171])) (hx : x.length = n) (hcap : n ≤ cap)
    (hb : ys.length + 9 + n ≤ 70368744177664) :
    Calls Try.prog 26 #[.pointer (some ⟨w.heap.size, 0, none⟩), .slice (some ⟨w1.heap.size, 0, none⟩) 1 1] (w1.alloc (.cells #[.slice (some ⟨g9, 0, none⟩) n cap] 23)) fun e w2 =>
      e = .returned (.tuple #[]) ∧ Lay [g9] w w2 want zs (ys ++ row x) ∧ Own 5 .u8 w2 wr.heap.size (.slice (some ⟨g9, 0, none⟩) (n + 1) cap) (x ++ [171]) := by
  obtain ⟨g, o1, o2, o3, _⟩ := h.one
  have ht := h.two
  have hs := k.size
  have hlt := o1.lt
  have hg9 : wr.heap.size ≤ g9 := o.2 g9 rfl
  have hg9l : g9 < w1.heap.size := own_lt o.1 g9 rfl
  have hS : ∀ y ∈ w.heap.size :: g.toList, y < wr.heap.size := by
    intro y hy
    rcases List.mem_cons.1 hy with rfl | hy
    · exact hlt.1
    · exact hlt.2 y (by simpa using hy)
  have hrd : RdS (w.heap.size :: g.toList) w1 (some ⟨g9, 0, none⟩) (iv .u8 x) := by
    have := o.rds hS
    rw [iv_app] at this
    exact this.app
  have ka : Kp [] wr (w1.alloc (.cells #[.slice (some ⟨g9, 0, none⟩) n cap] 23)) := k.alloc _
  refine (writer.bytes_any w.heap.size g ys (some ⟨w1.heap.size, 0, none⟩) 1 1 [x] _ (o1.kp ka (by simp) (by simp)) rfl (rs_cell w1 _ x n cap hx hcap (by simp) _ hrd (fun y hy => by have := hS y hy; omega)) (by simp; omega)).mono ?_
  rintro e w2 ⟨rfl, g', W2, A2, K2⟩
  rw [rows_one] at W2
  have hsa := K2.size
  simp only [World.size_alloc] at A2 hsa
  have ok : Kp (w.heap.size :: g.toList) wr w2 := (ka.mono (by simp)).trans K2 (fun y hy => .inl hy)
  have hg9S : g9 ∉ w.heap.size :: g.toList := fun hm => by have := hS _ hm; omega
  refine ⟨rfl, ⟨h.kp.trans ok ?_, by omega, h.all.kp ok ?_ (by simp), h.own.kp ok ?_, h.off1, h.off2, ?_, g', W2, ?_, ?_, ?_⟩, o.kp (K2.trans (Kp.refl [] _) (by simp) |> fun kk => ((Kp.refl _ w1).alloc _).trans kk (fun y hy => .inl hy)) (fun y hy hm => hg9S (by cases hy; exact hm))⟩
  · intro y hy
    rcases List.mem_cons.1 hy with rfl | hy
    · exact .inr (Nat.le_refl _)
    · have := o2 y (by simpa using hy)
      exact .inr (by omega)
  · intro hm
    rcases List.mem_cons.1 hm with hm | hm
    · omega
    · have := o2 _ (by simpa using hm)
      omega
  · intro y hy hm
    rcases List.mem_cons.1 hm with rfl | hm
    · exact h.off1 hy
    · exact o3 y hy (by simpa using hm)
  · intro y hy
    have hy' : y = g9 := by simpa using hy
    subst hy'
    refine ⟨by omega, by omega, fun e => ?_⟩
    have := own_lt h.own.1 _ e
    omega
  · intro y hy
    rcases A2 with e | ⟨j, e, hj⟩
    · exact o2 y (by rw [← e]; exact hy)
    · rw [e] at hy
      have := Option.some.inj hy
      omega
  · intro y hy
    have hyl := own_lt h.own.1 y hy
    exact A2.off (by omega) (o3 y hy)
  · intro y hy
    have hy' : y = g9 := by simpa using hy
    subst hy'
    exact A2.off (by omega) (fun e => by have := hlt.2 _ e; omega)

theorem Lay.two_ {w wr : World} {want : Value} {zs ys : List Int} (h : Lay [] w wr want zs ys) : TwoW w wr w.heap.size ys (w.heap.size + 1) [] want zs := by
  obtain ⟨g, o1, o2, o3, _⟩ := h.one
  refine ⟨h.kp, h.own, g, none, o1, h.all, ?_, ?_, ?_, ?_, by simp⟩
  · intro x hx hm
    have hm' : x = w.heap.size + 1 := by simpa using hm
    subst hm'
    rcases List.mem_cons.1 hx with e | hx
    · omega
    · have := o2 _ (by simpa using hx)
      omega
  · intro x hx hm
    rcases List.mem_cons.1 hx with rfl | hx
    · exact h.off1 (by simpa using hm)
    · exact o3 x (by simpa using hm) (by simpa using hx)
  · intro x hx hm
    have hx' : x = w.heap.size + 1 := by simpa using hx
    subst hx'
    exact h.off2 (by simpa using hm)
  · intro x hx
    rcases List.mem_cons.1 hx with rfl | hx
    · exact Nat.le_refl _
    · have := o2 _ (by simpa using hx)
      omega
theorem stBytes_rows {l : List (List Int)} {raw : List Int} {k : Nat} (h : k < l.length) (hx : l[k].length ≤ 4000) : stBytes (some (rows (l.drop k) ++ raw)) = (l[k], some (rows (l.drop (k + 1)) ++ raw)) := by
  rw [List.drop_eq_getElem_cons h, rows_cons, List.append_assoc, stBytes_row _ _ (by omega)]

theorem flat_drop (l : List (List Int)) (k : Nat) : (l.drop k).flatten.length ≤ l.flatten.length := by
  have h := congrArg (fun z => z.flatten.length) (List.take_append_drop k l)
  simp only [List.flatten_append, List.length_append] at h
  omega
theorem rdr_low {w : World} {b : Nat} {g : Option Nat} {s : Option (List Int)} (h : reader.Rdr w b g s) (hne : 0 < (left s).length) : ∀ x, g = some x → x < w.heap.size := by
  obtain ⟨A, c, _, rfl, h3, _⟩ := h
  obtain ⟨a, rfl, hl⟩ := h3.lt (by rw [iv_len]; exact hne)
  intro x hx
  have := Option.some.inj hx
  omega
theorem rows_u8 (l : List (List Int)) (h : ∀ x ∈ l, ∀ y ∈ x, 0 ≤ y ∧ y < 256) : ∀ c ∈ rows l, 0 ≤ c ∧ c < 256 := by
  intro c hc
  obtain ⟨x, hx, hcx⟩ := List.mem_flatMap.1 hc
  exact row_u8 x (h x hx) c hcx

set_option maxHeartbeats 16000000 in
set_option maxRecDepth 100000 in
theorem rows_law (A : Option Addr) (n c : Nat) (l : List (List Int)) (hl : l.length = n) (A2 : Option Addr) (n2 c2 : Nat) (raw : List Int) (hl2 : raw.length = n2) (w : World) (hr : Rs [] w A l) (hr2 : Rd w A2 (iv .u8 raw)) (hnil2 : A2 = none → c2 = 0)
    (hm : n ≤ 4611686018427387904) (hwf : ∀ x ∈ l, ∀ y ∈ x, 0 ≤ y ∧ y < 256) (hwf2 : Wf raw) :
    Calls Try.prog 7 #[.slice A n c, .slice A2 n2 c2] w fun e w' => e = .returned (.bool true) ∧ Below w.heap.size w w' := by
  have HV := As.mk (heavy_any A n c l w [] hl hr hm)
  cases hh : heavy l with
  | true =>
    rw [hh] at HV
    clear hh
    go_enter Try.func7, Try.ntmps7
    go_wp2_with (go_at_call 21; refine HV.out.mono ?_; rintro e w1 ⟨rfl, n1, rfl⟩)
    go_ret
    exact ⟨rfl, ((Kp.refl [] w).drewN _).below⟩
  | false =>
    rw [hh] at HV
    by_cases h4 : 4000 < n2
    · have h4' : (4000 : Int) < (n2 : Int) := by omega
      clear hh
      go_enter Try.func7, Try.ntmps7
      go_wp2_with (go_at_call 21; refine HV.out.mono ?_; rintro e w1 ⟨rfl, n1, rfl⟩)
      go_ret
      exact ⟨rfl, ((Kp.refl [] w).drewN _).below⟩
    · obtain ⟨hb1, hb2⟩ := heavy_le hh
      have HB := As.mk hb1
      have HR := As.mk hr
      have HL := As.mk hl
      have HR2 := As.mk hr2
      have HL2 := As.mk hl2
      have HN2 := As.mk hnil2
      have HWF := As.mk hwf
      have HWF2 := As.mk hwf2
      have HX := As.mk hb2
      clear hh hb1 hb2 hr hl hr2 hl2 hnil2 hwf hwf2
      have hn : n ≤ 1334 := by have := HB.out; have := HL.out; omega
      go_enter Try.func7, Try.ntmps7
      go_wp2_with (go_at_call 21; refine HV.out.mono ?_; rintro e w0 ⟨rfl, n1, hw0⟩; have HK0 : As (Kp [] w w0) := ⟨by rw [hw0]; exact (Kp.refl [] w).drewN _⟩; clear hw0)
      go_loopw [7, 8] (fun want i wr => ∃ k : Nat, i = .int .i64 (k : Int) ∧ k ≤ n ∧ As (Lay [] w0 wr want (rows (l.take k)) (rows (l.take k)))) (fun _ i _ => n - (intOf i).toNat)
      case atStart => exact ⟨0, rfl, by omega, ⟨Lay.start w0⟩⟩
      case round =>
        obtain ⟨k, rfl, hk, HY⟩ := hrel
        by_cases hlt : k < n
        · have hlx : k < l.length := by rw [HL.out]; exact hlt
          -- PART A
          obtain ⟨a, Aj, cj, rfl, _, d0, hcj, hnilj, hrj⟩ := HR.out k hlx
          have hxl := HX.out l[k] (by simp)
          have hxw := HWF.out l[k] (by simp)
          obtain ⟨x, hx⟩ : ∃ x, x = l[k] := ⟨_, rfl⟩
          rw [← hx] at d0 hcj hrj hxl hxw
          obtain ⟨len, hlen⟩ : ∃ len, x.length = len := ⟨_, rfl⟩
          rw [hlen] at d0 hcj hxl
          have HROW : As (∀ wX, Kp [] w wX → wX.cell? (a.add k) = some (.slice Aj len cj) ∧ Rd wX Aj (iv .u8 x)) := ⟨fun wX hK => ⟨hK.cell d0 (by simp), hK.rd hrj.rd (fun _ _ => by simp)⟩⟩
          have HXE := As.mk hx
          have HLEN := As.mk hlen
          have HNJ := As.mk hnilj
          have HBD : As ((rows (l.take k)).length + 9 + len ≤ 16006) := by
            constructor
            have h1 := rows_len_take l k hlx
            have h2 := HB.out
            have h3 := HL.out
            rw [← HXE.out, HLEN.out] at h1
            omega
          have hd := (HROW.out _ (HK0.out.trans HY.out.kp (by simp))).1
          have HRM := As.mk (roomy_any Aj len cj x wr hlen (HROW.out _ (HK0.out.trans HY.out.kp (by simp))).2 hnilj (by omega))
          clear d0 hrj hx hlen hxw hnilj
          go_wp2_with (go_at_call 25; refine HRM.out.mono ?_; rintro e w1 ⟨v9, rfl, O9, K9⟩; have O9' := O9.1; rw [List.length_append, HLEN.out, List.length_singleton] at O9'; obtain ⟨g9, cap9, rfl, hcap9, hcap9'⟩ := own_form O9' (by omega); have HO9 := As.mk O9; have HK9 := As.mk K9; have hd1 := (HROW.out _ ((HK0.out.trans HY.out.kp (by simp)).trans K9 (by simp))).1; have HBY := As.mk (Lay.call (n := len) HY.out K9 (by simpa using O9) HLEN.out (by omega) (by have := HBD.out; omega)); clear O9 O9' K9)
          go_wp2_with (go_at_call 26; refine HBY.out.mono ?_; rintro e w2 ⟨rfl, Y2, O2⟩; have HY2 := As.mk Y2; have HO2 := As.mk O2; have hd2 := (HROW.out _ (HK0.out.trans Y2.kp (by simp))).1; have HST := As.mk (stands_any (some ⟨g9, 0, none⟩) Aj (len + 1) cap9 len cj (x ++ [171]) x w2 (by rw [List.length_append, HLEN.out]; rfl) HLEN.out (O2.rds (S := []) (by simp)).rd (HROW.out _ (HK0.out.trans Y2.kp (by simp))).2 (by omega) (by rw [List.length_append, HLEN.out]; simp; omega) (by rw [HLEN.out]; omega)); clear Y2 O2)
          go_wp2_with (go_at_call 27; refine HST.out.mono ?_; rintro e w3 ⟨rfl, n3, hw3⟩; have HK3 : As (Kp [] w2 w3) := ⟨by rw [hw3]; exact (Kp.refl [] w2).drewN _⟩; have HSP := As.mk (spoil_any (.slice (some ⟨g9, 0, none⟩) (len + 1) cap9) (len + 1) (iv .u8 (x ++ [171])) w3 (by have h9 := (HO2.out.kp HK3.out (by simp)).1; rw [List.length_append, HLEN.out] at h9; exact h9) (by omega)); clear hw3)
          go_wp2_with (go_at_call 17; refine HSP.out.mono ?_; rintro e w4 ⟨rfl, K4⟩; have Y4 := HY2.out.spoiled HK3.out K4 (by have h9 := HO2.out.2 g9 rfl; have h8 := HY.out.kp.size; omega); have hd4 := (HROW.out _ (HK0.out.trans Y4.kp (by simp))).1; have HY4 := As.mk Y4; have HRB := As.mk (ref.bytes_any Aj len cj x w4 HLEN.out (HROW.out _ (HK0.out.trans Y4.kp (by simp))).2 HNJ.out (by omega)); clear K4 Y4)
          obtain ⟨mz, hmz⟩ : ∃ mz, (rows (l.take k)).length = mz := ⟨_, rfl⟩
          obtain ⟨mr, hmr⟩ : ∃ mr, (row x).length = mr := ⟨_, rfl⟩
          have HMZ := As.mk hmz
          have HMR := As.mk hmr
          have hbd : mz + mr ≤ 140737488355328 := by
            have h1 : (row x).length ≤ 9 + x.length := by rw [row, List.length_append]; have := num_len x.length; omega
            have h2 := HBD.out
            have h3 := HLEN.out
            omega
          clear hmz hmr
          go_wp2_with (first
            | (go_at_call 28; refine HRB.out.mono ?_; rintro e w5 ⟨v5, rfl, O5, K5⟩; have O5' := O5.1; rw [HMR.out] at O5'; obtain ⟨A5, c5, rfl, _, _, R5, N5⟩ := own_rd O5'; have Y5 := HY4.out.skip K5 (by simp); have HY5 := As.mk Y5; have HOM := Y5.own.1; rw [HMZ.out] at HOM; have HOM' := As.mk HOM; have HR5 := As.mk R5; have HN5 := As.mk N5; clear O5 O5' K5 R5 N5 Y5 HOM)
            | (at_builtin; refine clone.app8 rfl (.tmp 49) (.tmp 54) rfl u7 mz (iv .u8 (rows (l.take k))) rfl HOM'.out A5 mr c5 (iv .u8 (row x)) rfl (by rw [iv_len, HMR.out]) HR5.out HN5.out (iv_one _ _) hbd ?_; intro v6 w6 o6 k6 a6; have HY6 := As.mk (HY5.out.app HMZ.out HMR.out o6 k6 a6); clear o6 k6 a6))
          go_roundw
          case rel => exact ⟨k + 1, by go_num, by omega, ⟨by rw [rows_step l k hlx, ← HXE.out]; exact HY6.out⟩⟩
          case measure => simp [intOf]; omega
          -- END A
        · have e : l.take k = l := List.take_of_length_le (by rw [HL.out]; omega)
          rw [e] at HY
          have hwr : As (Kp [] w wr) := ⟨HK0.out.trans HY.out.kp (by simp)⟩
          have HRL := As.mk (rows_len l)
          have HC1 := As.mk (HY.out.two_.swap.call (f := 26) (fun g W lo => writer.bytes_any (w0.heap.size + 1) g [] A n c l wr W HL.out (HR.out.new hwr.out (fun x hx => by have h1 := lo x hx; have h2 := HK0.out.size; omega)) (by have h1 := HB.out; simp only [List.length_nil]; omega)))
          clear e
          go_wp2_with (go_at_call 26; refine HC1.out.mono ?_; rintro e w3 ⟨rfl, T3⟩; rw [List.nil_append] at T3; have HC2 := As.mk (T3.swap.call (f := 29) (fun g W lo => writer.raw_any w0.heap.size g (rows l) A2 n2 c2 raw w3 W HL2.out ((HK0.out.trans T3.kp (by simp)).rd_new HR2.out (by simp)) HN2.out (by have h1 := HB.out; have h2 := HRL.out; omega))); clear T3)
          go_wp2_with (go_at_call 29; refine HC2.out.mono ?_; rintro e w4 ⟨rfl, T4⟩; have HC3 := As.mk (T4.swap.call (f := 29) (fun g W lo => writer.raw_any (w0.heap.size + 1) g (rows l) A2 n2 c2 raw w4 W HL2.out ((HK0.out.trans T4.kp (by simp)).rd_new HR2.out (by simp)) HN2.out (by have h1 := HB.out; have h2 := HRL.out; omega))); clear T4 HC2)
          obtain ⟨mz, hmz⟩ : ∃ mz, (rows l).length = mz := ⟨_, rfl⟩
          obtain ⟨mt, hmt⟩ : ∃ mt, (rows l ++ raw).length = mt := ⟨_, rfl⟩
          obtain ⟨T, hT⟩ : ∃ T, T = rows l ++ raw := ⟨_, rfl⟩
          rw [← hT] at hmt
          have hmtz : mt = mz + n2 := by rw [← hmt, ← hmz, hT, List.length_append, HL2.out]
          have hmt9 : mt ≤ 20007 := by have h1 := HB.out; have h2 := HRL.out; omega
          have HMZ := As.mk hmz
          have HMT := As.mk hmt
          have HT := As.mk hT
          have HTW : As (Wf T) := ⟨by rw [HT.out]; intro x hx; rcases List.mem_append.1 hx with hx | hx; exact rows_u8 l HWF.out x hx; exact HWF2.out x hx⟩
          have hmz9 : mz + n2 ≤ 20007 := by omega
          clear hmz hmt hT hmtz
          go_wp2_with (first
            | (go_at_call 29; refine HC3.out.mono ?_; rintro e w5 ⟨rfl, T5⟩; rw [← HT.out] at T5; have HT5 := As.mk T5.swap; have HR5 : As (Rd w5 A2 (iv .u8 raw)) := ⟨(HK0.out.trans T5.kp (by simp)).rd_new HR2.out (by simp)⟩; have HOM := As.mk T5.own.1; rw [HMZ.out] at HOM; clear T5 HC3)
            | (at_builtin; refine clone.app8 rfl (.tmp 62) (.tmp 63) rfl u7 mz (iv .u8 (rows l)) rfl HOM.out A2 n2 c2 (iv .u8 raw) rfl (by rw [iv_len, HL2.out]) HR5.out HN2.out (iv_one _ _) (by omega) ?_; intro v6 w6 o6 k6 a6; have T6 := HT5.out.app HMZ.out HL2.out o6 k6 a6; rw [← HT.out] at T6; have O6 := T6.own.1; rw [HMT.out] at O6; obtain ⟨A6, c6, rfl, _, _, R6, N6⟩ := own_rd O6; have HT6 := As.mk T6; have HR6 := As.mk R6; have HN6 := As.mk N6; have HO1 : As (Calls Try.prog 13 #[.pointer (some ⟨w0.heap.size, 0, none⟩)] w6 (RetOwn 5 .u8 w6 T)) := ⟨by obtain ⟨g1, g2, W1, _⟩ := T6.ex; exact writer.out_any _ g1 _ w6 W1 (by rw [HMT.out]; omega)⟩; clear T6 O6 R6 N6 o6 k6 a6))
          -- PART B
          go_wp2_with (go_at_call 13; refine HO1.out.mono ?_; rintro e w7 ⟨v7, rfl, O7, K7⟩; have O7' := O7.1; rw [HMT.out] at O7'; obtain ⟨A7, c7, rfl, _, _, R7, _⟩ := own_rd O7'; have HK7 := As.mk K7; have HS7 := As.mk (same_any A7 A6 mt c7 mt c6 T T w7 HMT.out HMT.out R7 (K7.rd HR6.out (fun _ _ => by simp)) (by rw [HMT.out]; omega)); clear O7 O7' R7 K7 HO1)
          go_wp2_with (go_at_call 14; refine HS7.out.mono ?_; rintro e w8 ⟨rfl, n8, hw8⟩; have HK8 : As (Kp [] w6 w8) := ⟨by rw [hw8]; exact HK7.out.drewN _⟩; clear hw8; have HO9 : As (Calls Try.prog 13 #[.pointer (some ⟨w0.heap.size + 1, 0, none⟩)] w8 (RetOwn 5 .u8 w8 T)) := ⟨by obtain ⟨g1, g2, _, W2, _⟩ := (HT6.out.skip HK8.out).ex; exact writer.out_any _ g2 _ w8 W2 (by rw [HMT.out]; omega)⟩)
          go_wp2_with (go_at_call 13; refine HO9.out.mono ?_; rintro e w9 ⟨v9, rfl, O9, K9⟩; have O9' := O9.1; rw [HMT.out] at O9'; obtain ⟨A9, c9, rfl, _, _, R9, _⟩ := own_rd O9'; have HK9 : As (Kp [] w6 w9) := ⟨HK8.out.trans K9 (by simp)⟩; have HS9 := As.mk (same_any A9 A6 mt c9 mt c6 T T w9 HMT.out HMT.out R9 (HK9.out.rd HR6.out (fun _ _ => by simp)) (by rw [HMT.out]; omega)); clear O9 O9' R9 K9 HO9)
          -- PART D
          go_wp2_with (go_at_call 14; refine HS9.out.mono ?_; rintro e w10 ⟨rfl, n10, hw10⟩; have HK10 : As (Kp [] w6 w10) := ⟨by rw [hw10]; exact HK9.out.drewN _⟩; clear hw10; have HNR := As.mk (reader.new_any A6 mt c6 T w10 HMT.out (HK10.out.rd HR6.out (fun _ _ => by simp)) HN6.out (by omega) HTW.out))
          go_wp2_with (go_at_call 16; refine HNR.out.mono ?_; rintro e w11 ⟨b11, g11, rfl, R11, hb11, hg11, K11⟩; have HK11 : As (Kp [] w w11) := ⟨(HK0.out.trans HT6.out.kp (by simp)).trans (HK10.out.trans K11 (by simp)) (by simp)⟩; have HR11 := As.mk R11; have HB11 : As (w.heap.size ≤ b11) := ⟨Nat.le_trans ((HK0.out.trans HT6.out.kp (by simp)).trans HK10.out (by simp)).size hb11⟩; clear R11 hb11 hg11 K11)
          -- PART C
          go_loopw [11] (fun i wr => ∃ k : Nat, i = .int .i64 (k : Int) ∧ k ≤ n ∧ As (∃ g, reader.Rdr wr b11 g (some (rows (l.drop k) ++ raw))) ∧ As (Kp [] w wr)) (fun i _ => n - (intOf i).toNat)
          case atStart => exact ⟨0, rfl, by omega, ⟨g11, by rw [List.drop_zero, ← HT.out]; exact HR11.out⟩, HK11⟩
          case round =>
            obtain ⟨k, rfl, hk, ⟨g, hR⟩, HK⟩ := hrel
            by_cases hlt : k < n
            · have hlx : k < l.length := by rw [HL.out]; exact hlt
              obtain ⟨a, Aj, cj, rfl, _, d0, hcj, _, hrj⟩ := HR.out k hlx
              have hxl := HX.out l[k] (by simp)
              have HBT := As.mk (reader.bytes_any b11 g _ wr hR (by have h1 := HB.out; have h2 := HL.out; have h3 := rows_len (l.drop k); have h4 := HL2.out; have h5 := flat_drop l k; simp only [left, Option.getD_some, List.length_append]; rw [List.length_drop] at h3; omega))
              rw [stBytes_rows hlx (by omega)] at HBT
              have hgl := rdr_low hR (by simp only [left, Option.getD_some, List.drop_eq_getElem_cons hlx, rows_cons, row, List.length_append]; have := num_pos (l[k].length : Int); omega)
              have hbl := hR.lt
              obtain ⟨x, hx⟩ : ∃ x, x = l[k] := ⟨_, rfl⟩
              rw [← hx] at d0 hcj hrj hxl HBT
              obtain ⟨len, hlen⟩ : ∃ len, x.length = len := ⟨_, rfl⟩
              rw [hlen] at d0 hcj hxl
              have HROW : As (∀ wX, Kp [] w wX → wX.cell? (a.add k) = some (.slice Aj len cj) ∧ Rd wX Aj (iv .u8 x)) := ⟨fun wX hK => ⟨hK.cell d0 (by simp), hK.rd hrj.rd (fun _ _ => by simp)⟩⟩
              have HLEN := As.mk hlen
              have HGL := As.mk hgl
              have HBL := As.mk hbl
              clear d0 hrj hx hlen hgl hbl hR
              go_wp2_with (go_at_call 30; refine HBT.out.mono ?_; rintro e w1 ⟨v1, rfl, O1, g1, R1, G1, K1⟩; have O1' := O1.1; rw [HLEN.out] at O1'; obtain ⟨A1, c1, rfl, _, _, D1, _⟩ := own_rd O1'; have HK1 : As (Kp [] w w1) := ⟨HK.out.trans K1 (by intro y hy; right; have := HB11.out; simp at hy; omega)⟩; have hd1 := (HROW.out _ HK1.out).1; have HS1 := As.mk (same_any A1 Aj len c1 len cj x x w1 HLEN.out HLEN.out D1 (HROW.out _ HK1.out).2 (by rw [HLEN.out]; omega)); have HO1 := As.mk O1'; have HLO1 := As.mk O1.2; have HR1 := As.mk R1; have HG1 := As.mk G1; clear O1 O1' D1 R1 G1 K1)
              go_wp2_with (go_at_call 14; refine HS1.out.mono ?_; rintro e w2 ⟨rfl, n2', hw2⟩; have HK2 : As (Kp [] w1 w2) := ⟨by rw [hw2]; exact (Kp.refl [] w1).drewN _⟩; have HSP := As.mk (spoil_any (.slice A1 len c1) len (iv .u8 x) w2 (HK2.out.own HO1.out (by simp)) (by omega)); clear hw2)
              go_wp2_with (go_at_call 17; refine HSP.out.mono ?_; rintro e w3 ⟨rfl, K3⟩; have HR3 := As.mk ((HR1.out.kp HK2.out (by simp) (by simp)).kp K3 (fun hm => by have h1 := HLO1.out b11 (by simpa using hm); have h2 := HBL.out; omega) (fun y hy hm => by
                have h1 := HLO1.out y (by simpa using hm)
                rcases HG1.out with rfl | rfl
                · have h2 := HGL.out y hy
                  omega
                · cases hy)); have HK3 : As (Kp [] w w3) := ⟨(HK1.out.trans HK2.out (by simp)).row K3 (fun y hy => .inr (by have h1 := HLO1.out y hy; have h2 := HK.out.size; omega))⟩; clear K3)
              go_roundw
              case rel => exact ⟨k + 1, by go_num, by omega, ⟨_, HR3.out⟩, HK3⟩
              case measure => simp [intOf]; omega
            · have e : l.drop k = [] := List.drop_of_length_le (by rw [HL.out]; omega)
              rw [e, show rows [] = [] from rfl, List.nil_append] at hR
              have HLF := As.mk (reader.left_any b11 g _ wr hR)
              rw [show left (some raw) = raw from rfl, HL2.out] at HLF
              have HRW := As.mk (reader.raw_any b11 g _ (n2 : Int) wr hR (by simp only [left, Option.getD_some]; rw [HL2.out]; omega))
              rw [reader.stRaw_good (by simp only [left, Option.getD_some]; rw [HL2.out]; exact Nat.le_refl _), show (left (some raw)).take n2 = raw from by show raw.take n2 = raw; exact List.take_of_length_le (by rw [HL2.out]; exact Nat.le_refl _), show (some raw).map (fun z : List Int => z.drop n2) = some [] from by rw [Option.map_some, List.drop_of_length_le (by rw [HL2.out]; exact Nat.le_refl _)]] at HRW
              clear hR e
              go_wp2_with (first
                | (go_at_call 31; refine HLF.out.mono ?_; rintro e w1 ⟨rfl, rfl⟩)
                | (go_at_call 32; refine HRW.out.mono ?_; rintro e w1 ⟨v1, rfl, O1, g1, R1, G1, K1⟩; have O1' := O1.1; rw [HL2.out] at O1'; obtain ⟨A1, c1, rfl, _, _, D1, _⟩ := own_rd O1'; have HK1 : As (Kp [] w w1) := ⟨HK.out.trans K1 (by intro y hy; right; have := HB11.out; simp at hy; omega)⟩; have HS1 := As.mk (same_any A1 A2 n2 c1 n2 c2 raw raw w1 HL2.out HL2.out D1 (HK1.out.rd_new HR2.out (by simp)) (by rw [HL2.out]; omega)); have HR1 := As.mk R1; clear O1 O1' D1 R1 G1 K1)
                | (go_at_call 14; refine HS1.out.mono ?_; rintro e w2 ⟨rfl, n2', hw2⟩; have HK2 : As (Kp [] w1 w2) := ⟨by rw [hw2]; exact (Kp.refl [] w1).drewN _⟩; have HWH := As.mk (reader.whole_any b11 _ _ w2 (HR1.out.kp HK2.out (by simp) (by simp))); clear hw2)
                | (go_at_call 20; refine HWH.out.mono ?_; rintro e w3 ⟨rfl, rfl⟩; rw [show reader.whole (some []) = true from rfl])
                | (go_at_call 11; refine (known_any _).mono ?_; rintro e w4 ⟨rfl, hk4⟩; have HK4 : As (Kp [] w w4) := ⟨(HK1.out.trans HK2.out (by simp)).trans hk4 (by simp)⟩; clear hk4))
              go_ret
              exact ⟨rfl, HK4.out.below⟩
          -- END C
          -- END D
          -- END B

theorem rows_row (w : World) (A : Option Addr) (n c : Nat) (l : List (List Int)) (hl : l.length = n) (hr : Rs [] w A l) (_hc : n ≤ c) (_hm : c ≤ 9223372036854775807) (_hn : A = none → c = 0)
    (hw : ∀ x ∈ l, x.length ≤ 9223372036854775807 ∧ ∀ y ∈ x, (Lit.int .u8 y).wf = true) (hz : n * 24 ≤ 140737488351232)
    (A2 : Option Addr) (n2 c2 : Nat) (raw : List Int) (hl2 : raw.length = n2) (hr2 : Rd w A2 (iv .u8 raw)) (_hc2 : n2 ≤ c2) (_hm2 : c2 ≤ 9223372036854775807) (hn2 : A2 = none → c2 = 0)
    (hw2 : ∀ x ∈ raw, (Lit.int .u8 x).wf = true) (_hz2 : n2 * 1 ≤ 140737488351232) :
    Calls Try.prog 7 #[.slice A n c, .slice A2 n2 c2] w fun e w' => e = .returned (.bool true) ∧ Below w.heap.size w w' :=
  rows_law A n c l hl A2 n2 c2 raw hl2 w hr hr2 hn2 (by omega) (fun x hx y hy => wf_u8 ((hw x hx).2 y hy)) (fun y hy => wf_u8 (hw2 y hy))

end Go.Proofs.Ytdafiblehgeddaa.haystacklaw1
