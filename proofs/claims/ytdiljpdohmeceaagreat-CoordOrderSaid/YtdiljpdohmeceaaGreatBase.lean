/- MERGED: Writer OpA OpB Same13 Util13 OpC OpD RdrA Reader Reader2 OpE Ref Ref2 Cuts RepA RepD Acc OpF Open LawOenc MatP MatA WireA Grid StepR OpenKT -/
import Derived.Test.YtdiljpdohmeceaaGreatBone
import Derived.Lib.ConvBytes
import Derived.Test.YtdiljpdohmeceaaGreatProg
import Derived.Lib.SlBytesConst
import Derived.Deep.RegionLaw
import Derived.ProofKit
import Derived.OpenShut
import Derived.ShutString
import Derived.ChangeOld
import Derived.SizedLaws
import Derived.Deep.Matrix
import Derived.Deep.RegionHeld3
import Derived.Deep.Cut
import Derived.Lib.SliceRun
import Derived.Deep.Slices
/- octet.Writer: what it holds (Wr), and its methods. -/
namespace Go.Proofs.YtdiljpdohmeceaaGreat.writer
open Go.RowKit H O

theorem info_u8 : (Tryz.prog.info? 5).map (fun i => (i.zero, i.size, i.bytes)) = some (some (.int .u8 0), 1, 1) := by kernel_rfl

/-- The Writer in block b has laid xs, in block g (if any). -/
def Wr (w : World) (b : Nat) (g : Option Nat) (xs : List Int) : Prop :=
  ∃ v, w.heap[b]? = some (.cells #[v] 177 (0, 0)) ∧ v.ownBlock = g ∧ w.ownsRow 0 5 1 v xs.length (iv .u8 xs) ∧ g ≠ some b
/-- Behind a call that lays ys. -/
def WrPost (b : Nat) (g : Option Nat) (xs ys : List Int) (w : World) (e : Ending) (w' : World) : Prop :=
  e = .returned (.tuple #[]) ∧ ∃ g', Wr w' b g' (xs ++ ys) ∧ At w.heap.size g g' ∧ Kp (b :: g.toList) w w'

theorem Wr.kp {w w1 : World} {b : Nat} {g : Option Nat} {xs : List Int} {S : List Nat} (h : Wr w b g xs) (k : Kp S w w1) (hb : b ∉ S) (hg : ∀ x, g = some x → x ∉ S) : Wr w1 b g xs := by
  obtain ⟨v, h1, rfl, h3, h4⟩ := h
  exact ⟨v, k.blk h1 hb, rfl, k.own h3 hg, h4⟩
theorem Wr.lt {w : World} {b : Nat} {g : Option Nat} {xs : List Int} (h : Wr w b g xs) : b < w.heap.size ∧ ∀ x, g = some x → x < w.heap.size := by
  obtain ⟨v, h1, rfl, h3, h4⟩ := h
  exact ⟨lt_of_block h1, own_lt h3⟩
theorem Wr.new (w : World) : Wr (w.alloc (.cells #[.slice none 0 0] 177)) w.heap.size none [] :=
  ⟨_, heap_alloc_new w _, rfl, World.ownsRow_nil _ 0 _ 1, by simp⟩

/-- Behind an append onto a Writer's row: what the store wants, and what it leaves. -/
theorem Wr.app {w wa w1 : World} {b n m : Nat} {ys news : List Int} {v v1 : Value} (hy : ys.length = n) (hb : w.heap[b]? = some (.cells #[v] 177 (0, 0))) (hne : v.ownBlock ≠ some b) (ka : Kp [] w wa)
    (hm : news.length = m) (o1 : w1.ownsRow 0 5 1 v1 (n + m) (iv .u8 ys ++ iv .u8 news)) (k1 : Kp v.ownBlock.toList wa w1) (a1 : At wa.heap.size v.ownBlock v1.ownBlock) :
    w1.cell? ⟨b, 0, none⟩ = some v ∧ w1.frozen? ⟨b, 0, none⟩ = false ∧ Wr (w1.setCell ⟨b, 0, none⟩ v1) b v1.ownBlock (ys ++ news) ∧ At w.heap.size v.ownBlock v1.ownBlock ∧
      Kp (b :: v.ownBlock.toList) w (w1.setCell ⟨b, 0, none⟩ v1) := by
  subst hm hy
  have hlt := lt_of_block hb
  have hs := ka.size
  have hb1 : w1.heap[b]? = some (.cells #[v] 177 (0, 0)) := k1.blk (ka.blk hb (by simp)) (by simpa using hne)
  have hne1 : v1.ownBlock ≠ some b := a1.off (by omega) hne
  refine ⟨cell_of_one hb1, free_of_one hb1, ⟨v1, one_setCell hb1, rfl, ?_, hne1⟩, ?_, ?_⟩
  · have := (((Kp.refl [b] w1).setCell (a := ⟨b, 0, none⟩) (.inl (by simp)) v1).own o1 (by intro k hk; rw [hk] at hne1; simpa using hne1))
    simpa [iv] using this
  · rcases a1 with h | ⟨k, h, hk⟩
    · exact .inl h
    · exact .inr ⟨k, h, by omega⟩
  · refine (((ka.mono (T := b :: v.ownBlock.toList) (by simp)).row k1 ?_).setCell ?_ v1)
    · intro x hx
      exact .inl (by simp [hx])
    · exact .inl (by simp)

theorem WrPost.of {b : Nat} {g g' : Option Nat} {xs ys : List Int} {w w' : World} (h1 : Wr w' b g' (xs ++ ys)) (h2 : At w.heap.size g g') (h3 : Kp (b :: g.toList) w w') : WrPost b g xs ys w (.returned (.tuple #[])) w' := ⟨rfl, g', h1, h2, h3⟩

theorem WrPost.then {b : Nat} {g g1 g2 : Option Nat} {xs ys zs : List Int} {w w1 wa w2 : World} (A1 : At w.heap.size g g1) (K1 : Kp (b :: g.toList) w w1) (ka : Kp [] w1 wa) (W2 : Wr w2 b g2 (xs ++ ys ++ zs)) (A2 : At wa.heap.size g1 g2)
    (K2 : Kp (b :: g1.toList) wa w2) : WrPost b g xs (ys ++ zs) w (.returned (.tuple #[])) w2 := by
  have hs := ka.size
  have hs1 := K1.size
  refine ⟨rfl, g2, by rw [← List.append_assoc]; exact W2, A1.trans A2 (by omega), (K1.trans ka (by simp)).trans K2 ?_⟩
  intro x hx
  rcases List.mem_cons.1 hx with rfl | hx
  · exact .inl (by simp)
  · have hx' : g1 = some x := by simpa using hx
    rcases A1 with rfl | ⟨j, rfl, hj⟩
    · exact .inl (by simp [hx'])
    · exact .inr (by have := Option.some.inj hx'; omega)

/-- Raw -/
theorem raw_any (b : Nat) (g : Option Nat) (xs : List Int) (A : Option Addr) (n c : Nat) (ys : List Int) (w : World) (hW : Wr w b g xs) (hn : ys.length = n) (hr : Rd w A (iv .u8 ys)) (hnil : A = none → c = 0)
    (hb : xs.length + n ≤ 140737488351232) :
    Calls Tryz.prog 126 #[.pointer (some ⟨b, 0, none⟩), .slice A n c] w (WrPost b g xs ys w) := by
  obtain ⟨v, hb1, rfl, ho, hne⟩ := hW
  have c1 := cell_of_one hb1
  have HB := As.mk hb1
  have HO := As.mk ho
  have HR := As.mk hr
  have HN := As.mk hnil
  have HE := As.mk hne
  have HL := As.mk hn
  clear hb1 ho hr hnil hne hn
  go_enter Tryz.func126, Tryz.ntmps126
  go_wp2_with (at_builtin; refine clone.app8 rfl (.tmp 10) (.tmp 11) rfl v xs.length (iv .u8 xs) rfl HO.out A n c (iv .u8 ys) rfl (by rw [iv_len, HL.out]) HR.out HN.out (iv_one _ _) (by omega) ?_; intro v1 w1 o1 k1 a1; obtain ⟨A1, c1', rfl, _⟩ := own_rd o1; obtain ⟨c2, f2, W2, A2, K2⟩ := Wr.app rfl HB.out HE.out (Kp.refl [] w) HL.out o1 k1 a1; have R := As.mk (WrPost.of W2 A2 K2); clear o1 k1 a1 W2 A2 K2)
  go_end0
  exact R.out

/-- Out -/
theorem out_any (b : Nat) (g : Option Nat) (xs : List Int) (w : World) (hW : Wr w b g xs) (hb : xs.length ≤ 140737488351232) :
    Calls Tryz.prog 107 #[.pointer (some ⟨b, 0, none⟩)] w (RetOwn 5 .u8 w xs) := by
  obtain ⟨v, hb1, rfl, ho, hne⟩ := hW
  obtain ⟨A, c, rfl, hle, hmax, hrd, hnil⟩ := own_rd ho
  have c1 := cell_of_one hb1
  have HC := As.mk (clone.clone_any A xs.length c xs w rfl hrd hnil (by omega))
  clear hb1 ho hne hrd hnil
  go_enter Tryz.func107, Tryz.ntmps107
  go_wp2_with (go_at_call 118; refine HC.out.mono ?_; rintro e w' ⟨v, rfl, ho, hk⟩; have HO := As.mk ho; have HK := As.mk hk; clear ho hk)
  go_ret
  exact ⟨v, rfl, HO.out, HK.out⟩

theorem min_two (x y : Int) (t ty : TypeId) (w : World) : (Builtin.min_ #[t, t] ty #[.int .i64 x, .int .i64 y]).run Tryz.prog w = .ok (.int .i64 (if y < x then y else x)) w := by
  simp [Builtin.min_, Builtin.min2]
theorem max_two (x y : Int) (t ty : TypeId) (w : World) : (Builtin.max_ #[t, t] ty #[.int .i64 x, .int .i64 y]).run Tryz.prog w = .ok (.int .i64 (if y > x then y else x)) w := by
  simp [Builtin.max_, Builtin.max2]

set_option maxHeartbeats 4000000 in
set_option maxRecDepth 100000 in
/-- Nums -/
theorem nums_any (b : Nat) (g : Option Nat) (xs : List Int) (A : Option Addr) (n c : Nat) (vs : List Int) (w : World) (hW : Wr w b g xs) (hn : vs.length = n) (hr : RdS (b :: g.toList) w A (iv .i64 vs))
    (hb : xs.length + 9 * n ≤ 140737488351232) :
    Calls Tryz.prog 105 #[.pointer (some ⟨b, 0, none⟩), .slice A n c] w (WrPost b g xs (nums vs) w) := by
  subst hn
  have HW := As.mk hW
  have HR := As.mk hr
  clear hW hr
  go_enter Tryz.func105, Tryz.ntmps105
  go_wp2
  go_loopw [11] (fun i wr => ∃ k : Nat, i = .int .i64 k ∧ k ≤ vs.length ∧ As (WrPost b g xs (nums (vs.take k)) w (.returned (.tuple #[])) wr)) (fun i _ => vs.length - (intOf i).toNat)
  case atStart => exact ⟨0, rfl, by omega, ⟨WrPost.of (by simpa [nums] using HW.out) (At.refl _ _) (Kp.refl _ _)⟩⟩
  case round =>
    obtain ⟨k, rfl, hk, HP⟩ := hrel
    by_cases hlt : k < vs.length
    · obtain ⟨_, g1, W1, A1, K1⟩ := HP.out
      obtain ⟨a, rfl, d1⟩ := (HR.out.kp K1 (fun x hx => .inl hx)).int k hlt
      obtain ⟨x, hx⟩ : ∃ x, x = vs[k] := ⟨_, rfl⟩
      rw [← hx] at d1
      have HX := As.mk hx
      clear hx
      obtain ⟨u, hu⟩ : ∃ u, u = cl x := ⟨_, rfl⟩
      have hmin : ∀ w, (Builtin.min_ #[3, 3] 3 #[.int .i64 x, .int .i64 4611686018427387904]).run Tryz.prog w = .ok (.int .i64 (min x 4611686018427387904)) w := fun w => by rw [min_two]; congr 2; omega
      have hmax : ∀ w, (Builtin.max_ #[3, 3] 3 #[.int .i64 0, .int .i64 (min x 4611686018427387904)]).run Tryz.prog w = .ok (.int .i64 (u : Int)) w := fun w => by rw [max_two]; rw [cl_if, hu]
      have hu2 : u ≤ 4611686018427387904 := by subst hu; exact cl_le x
      have HU := As.mk hu
      clear hu
      have HP : As (WrPost b g xs (nums (vs.take k)) w (.returned (.tuple #[])) wr) := HP
      clear W1 A1 K1
      obtain ⟨wo, rfl⟩ : ∃ wo : World, wo = wr := ⟨_, rfl⟩
      go_wp2_with fail
      go_loopw [6] (fun s w2 => ∃ u2 : Nat, s = .int .u64 (u2 : Int) ∧ As (u2 ≤ 4611686018427387904) ∧ As (∃ pre, pre ++ enc u2 = num x ∧ WrPost b g xs (nums (vs.take k) ++ pre) w (.returned (.tuple #[])) w2)) (fun s _ => (intOf s).toNat)
      case atStart => exact ⟨u, rfl, ⟨hu2⟩, ⟨[], by rw [HU.out]; rfl, by rw [List.append_nil]; exact HP.out⟩⟩
      case round =>
        clear d1 hmin hmax hu2
        obtain ⟨u2, rfl, HU2, ⟨pre, hpre, _, g2, W2, A2, K2⟩⟩ := hrel
        obtain ⟨v, hb1, rfl, ho, hne⟩ := W2
        obtain ⟨m, hm⟩ : ∃ m, (xs ++ (nums (vs.take k) ++ pre)).length = m := ⟨_, rfl⟩
        rw [hm] at ho
        have HM := As.mk hm
        clear hm
        obtain ⟨Av, cv, rfl, _⟩ := own_rd ho
        have c1 := cell_of_one hb1
        have HB := As.mk hb1
        have HO := As.mk ho
        have HE := As.mk hne
        have HA2 := As.mk A2
        have HK2 := As.mk K2
        have HP2 := As.mk hpre
        clear hb1 ho hne A2 K2 hpre
        have HBD : As (m + 1 ≤ 140737488355328) := by
          constructor
          have h1 := nums_len (vs.take k)
          have h2 := num_len x
          have h3 := enc_pos u2
          have h4 := HM.out
          rw [← HP2.out] at h2
          simp only [List.length_append, List.length_take] at h1 h2 h4
          omega
        by_cases hge : 128 ≤ u2
        · have hor := or128 u2
          go_wp2_with (at_builtin; refine clone.app8_one rfl (.tmp 27) (.tmp 31) rfl (.slice Av m cv) _ _ rfl HO.out ((u2 : Int) % 128 + 128) rfl HBD.out ?_; intro v1 w1 o1 k1 a1; obtain ⟨A1, c1', rfl, _⟩ := own_rd o1; obtain ⟨c2, f2, W3, A3, K3⟩ := Wr.app (news := [(u2 : Int) % 128 + 128]) HM.out HB.out HE.out ((Kp.refl [] wr).alloc _) rfl o1 k1 (by simpa using a1); have R := As.mk (WrPost.then HA2.out HK2.out (Kp.refl _ _) W3 A3 K3); clear o1 k1 a1 W3 A3 K3)
          go_roundw
          case rel => exact ⟨u2 / 128, by go_num, ⟨by have := HU2.out; omega⟩, ⟨pre ++ [(u2 : Int) % 128 + 128], by rw [← HP2.out, enc_hi (u := u2) (by omega), List.append_assoc, List.singleton_append], by rw [← List.append_assoc]; exact R.out⟩⟩
          case measure => simp [intOf]; omega
        · go_wp2_with (at_builtin; refine clone.app8_one rfl (.tmp 39) (.tmp 42) rfl (.slice Av m cv) _ _ rfl HO.out (u2 : Int) rfl HBD.out ?_; intro v1 w1 o1 k1 a1; obtain ⟨A1, c1', rfl, _⟩ := own_rd o1; obtain ⟨c2, f2, W3, A3, K3⟩ := Wr.app (news := [(u2 : Int)]) HM.out HB.out HE.out ((Kp.refl [] wr).alloc _) rfl o1 k1 (by simpa using a1); have R := As.mk (WrPost.then HA2.out HK2.out (Kp.refl _ _) W3 A3 K3); clear o1 k1 a1 W3 A3 K3)
          go_roundw
          case rel => exact ⟨k + 1, by go_num, by omega, ⟨by rw [nums_step vs k hlt, ← HX.out, ← HP2.out, enc_lo (u := u2) (by omega), ← List.append_assoc]; exact R.out⟩⟩
          case measure => simp [intOf]; omega
    · go_wp2
      go_end0
      have : vs.take k = vs := List.take_of_length_le (by omega)
      rw [this] at HP
      exact HP.out


set_option maxHeartbeats 4000000 in
/-- Bytes -/
theorem bytes_any (b : Nat) (g : Option Nat) (xs : List Int) (A : Option Addr) (n c : Nat) (l : List (List Int)) (w : World) (hW : Wr w b g xs) (hn : l.length = n) (hr : Rs (b :: g.toList) w A l)
    (hb : xs.length + 9 * n + l.flatten.length ≤ 140737488351232) :
    Calls Tryz.prog 106 #[.pointer (some ⟨b, 0, none⟩), .slice A n c] w (WrPost b g xs (rows l) w) := by
  subst hn
  have HW := As.mk hW
  have HR := As.mk hr
  clear hW hr
  go_enter Tryz.func106, Tryz.ntmps106
  go_wp2
  go_loopw [8] (fun i wr => ∃ k : Nat, i = .int .i64 k ∧ k ≤ l.length ∧ As (WrPost b g xs (rows (l.take k)) w (.returned (.tuple #[])) wr)) (fun i _ => l.length - (intOf i).toNat)
  case atStart => exact ⟨0, rfl, by omega, ⟨WrPost.of (by simpa [rows] using HW.out) (At.refl _ _) (Kp.refl _ _)⟩⟩
  case round =>
    obtain ⟨k, rfl, hk, HP⟩ := hrel
    by_cases hlt : k < l.length
    · obtain ⟨_, g1, W1, A1, K1⟩ := HP.out
      obtain ⟨a, Aj, cj, rfl, ha, d0, _, hnil, hrd⟩ := HR.out k hlt
      have d1 := K1.cell d0 (by rw [add_block]; exact ha)
      clear d0 ha
      obtain ⟨x, hx⟩ : ∃ x, x = l[k] := ⟨_, rfl⟩
      rw [← hx] at d1 hrd
      have HX := As.mk hx
      have HRD := As.mk hrd
      have HNL := As.mk hnil
      clear hx hrd hnil
      have HBD : As (xs.length + (rows (l.take k)).length + 9 + x.length ≤ 140737488351232) := by
        constructor
        have h1 := rows_len_take l k hlt
        rw [← HX.out] at h1
        omega
      have HBD2 : As ((xs ++ (rows (l.take k) ++ nums [(x.length : Int)])).length + x.length ≤ 140737488351232) := by
        constructor
        have h1 := HBD.out
        have h2 := nums_len [(x.length : Int)]
        simp only [List.length_append, List.length_cons, List.length_nil] at h2 ⊢
        omega
      have HN : As (Calls Tryz.prog 105 #[.pointer (some ⟨b, 0, none⟩), .slice (some ⟨wr.heap.size, 0, none⟩) 1 1] (wr.alloc (.cells #[.int .i64 (x.length : Int)] 3)) (WrPost b g1 (xs ++ rows (l.take k)) (nums [(x.length : Int)]) (wr.alloc (.cells #[.int .i64 (x.length : Int)] 3)))) := by
        constructor
        have hl := W1.lt
        refine nums_any b g1 _ _ 1 1 [(x.length : Int)] _ (W1.kp ((Kp.refl [] wr).alloc _) (by simp) (by simp)) rfl (RdS.lit wr [.int .i64 (x.length : Int)] _ ?_) (by have := HBD.out; rw [List.length_append]; omega)
        intro y hy
        rcases List.mem_cons.1 hy with rfl | hy
        · exact hl.1
        · exact hl.2 y (by simpa using hy)
      have HA1 := As.mk A1
      have HK1 := As.mk K1
      clear W1 A1 K1
      go_wp2_with (first
        | (go_at_call 105; refine HN.out.mono ?_; rintro e w1 ⟨rfl, g2, W2, A2, K2⟩; obtain ⟨_, g3, W3, A3, K3⟩ := WrPost.then HA1.out HK1.out ((Kp.refl [] wr).alloc _) W2 A2 K2; have HA3 := As.mk A3; have HK3 := As.mk K3; have HRW := As.mk (raw_any b g3 _ Aj x.length cj x w1 W3 rfl (HRD.out.kp K3 (fun x hx => .inl hx)).rd HNL.out HBD2.out); clear W2 A2 K2 W3 A3 K3)
        | (go_at_call 126; refine HRW.out.mono ?_; rintro e w2 ⟨rfl, g4, W4, A4, K4⟩; have HP4 := As.mk (WrPost.then HA3.out HK3.out (Kp.refl [] _) W4 A4 K4); clear W4 A4 K4))
      go_roundw
      case rel => exact ⟨k + 1, by go_num, by omega, ⟨by rw [rows_step l k hlt, ← HX.out, row, ← nums_one, ← List.append_assoc]; exact HP4.out⟩⟩
      case measure => simp [intOf]; omega
    · go_wp2
      go_end0
      have : l.take k = l := List.take_of_length_le (by omega)
      rw [this] at HP
      exact HP.out

end Go.Proofs.YtdiljpdohmeceaaGreat.writer

/- Package op: within, isKey, what an op's bytes are. -/
namespace Go.Proofs.YtdiljpdohmeceaaGreat.O
open Go.RowKit H

/-- a string's bytes -/
def kb (s : ByteArray) : List Int := s.data.toList.map fun b => (b.toNat : Int)
theorem kb_len (s : ByteArray) : (kb s).length = s.size := by
  rw [kb, List.length_map, Array.length_toList]
  rfl
theorem kb_wf (s : ByteArray) : Wf (kb s) := by
  intro x hx
  obtain ⟨b, _, rfl⟩ := List.mem_map.1 hx
  have := b.toNat_lt
  omega
theorem kb_inj {s t : ByteArray} (h : kb s = kb t) : s = t := by
  unfold kb at h
  have h2 : s.data.toList = t.data.toList := (List.map_inj_right (fun a b hab => UInt8.toNat_inj.1 (by omega))).1 h
  cases s
  cases t
  congr
  exact Array.toList_inj.1 h2

/-- numbers from 0 to 2^40 -/
def within1 (x : Int) : Bool := decide (0 ≤ x) && decide (x ≤ 1099511627776)
/-- which error an op has -/
def opErr (k cl sq : Int) (kn n : Nat) : Int :=
  if (k ≠ 1 ∧ k ≠ 2) ∨ (within1 cl && within1 sq) = false ∨ ¬ (1 ≤ kn ∧ kn ≤ 64) ∨ (k = 2 ∧ 0 < n) then 1 else if 4096 < n then 5 else 0
def opBytes (k cl sq : Int) (key : ByteArray) (text : List Int) : List Int := nums [k, cl, sq] ++ rows [kb key, text]

theorem kp_bytes {S : List Nat} {w w1 : World} (h : Kp S w w1) (e : TypeId) (s : ByteArray) : Kp S w (Lib.bytesWorld w1 e s) :=
  h.trans (T := []) ⟨rfl, rfl, rfl, by rw [Lib.bytesWorld_size]; omega, fun k hk _ => Lib.bytesWorld_at_old w1 e s k hk⟩ (by simp)
theorem rd_bytes (w : World) (e : TypeId) (s : ByteArray) : Rd (Lib.bytesWorld w e s) (some ⟨w.heap.size, 0, none⟩) (iv .u8 (kb s)) := by
  intro j v hv
  refine ⟨_, rfl, ?_⟩
  rw [Addr.add_lit, Nat.zero_add]
  have hj : j < s.size := by
    have := (List.getElem?_eq_some_iff.1 hv).1
    rwa [iv_len, kb_len] at this
  rw [Lib.bytesWorld_cell w e s j hj, ← hv]
  have hj2 : j < s.data.size := hj
  have e : s.data[j]? = some s.data[j] := Array.getElem?_eq_getElem hj2
  simp only [iv, kb, List.getD, List.getElem?_map, Array.getElem?_toList, e, Option.map_some, Option.getD_some]
end Go.Proofs.YtdiljpdohmeceaaGreat.O
namespace Go.Proofs.YtdiljpdohmeceaaGreat.opk
open Go.RowKit H O

set_option maxHeartbeats 2000000 in
theorem within_any (A : Option Addr) (n c : Nat) (xs : List Int) (w : World) (hn : xs.length = n) (h0 : Rd w A (iv .i64 xs)) (hm : n ≤ 4611686018427387904) :
    Calls Tryz.prog 103 #[.slice A n c] w fun e w' => e = .returned (.bool (xs.all within1)) ∧ w' = w := by
  subst hn
  have HR := As.mk h0
  clear h0
  go_enter Tryz.func103, Tryz.ntmps103
  go_wp2
  go_loopw [7] (fun i wr => ∃ k : Nat, i = .int .i64 (k : Int) ∧ k ≤ xs.length ∧ As ((xs.take k).all within1 = true) ∧ As (wr = w)) (fun i _ => xs.length - (intOf i).toNat)
  case atStart => exact ⟨0, rfl, by omega, ⟨rfl⟩, ⟨rfl⟩⟩
  case round =>
    obtain ⟨k, rfl, hk, HA, ⟨rfl⟩⟩ := hrel
    by_cases hlt : k < xs.length
    · obtain ⟨a, rfl, d0⟩ := HR.out.int k hlt
      have hsplit : xs.all within1 = ((xs.take k).all within1 && within1 xs[k] && (xs.drop (k + 1)).all within1) := by
        have e : xs = xs.take k ++ xs[k] :: xs.drop (k + 1) := by rw [List.getElem_cons_drop, List.take_append_drop]
        conv => lhs; rw [e]
        rw [List.all_append, List.all_cons, Bool.and_assoc]
      have hstep : (xs.take (k + 1)).all within1 = ((xs.take k).all within1 && within1 xs[k]) := by
        rw [take_succ' xs k hlt, List.all_append]
        simp
      rw [HA.out] at hsplit hstep
      obtain ⟨x, hx⟩ : ∃ x, x = xs[k] := ⟨_, rfl⟩
      rw [← hx] at d0 hsplit hstep
      have HSP := As.mk hsplit
      have HST := As.mk hstep
      clear hsplit hstep hx
      by_cases h1 : x < 0
      · have hw : within1 x = false := by unfold within1; rw [decide_eq_false (by omega)]; rfl
        have HW := As.mk hw
        clear hw
        go_wp2
        go_ret
        exact ⟨by rw [HSP.out, HW.out]; rfl, rfl⟩
      · by_cases h2 : 1099511627776 < x
        · have hw : within1 x = false := by unfold within1; rw [decide_eq_false (show ¬ x ≤ 1099511627776 by omega)]; simp
          have HW := As.mk hw
          clear hw
          go_wp2
          go_ret
          exact ⟨by rw [HSP.out, HW.out]; rfl, rfl⟩
        · have hw : within1 x = true := by unfold within1; rw [decide_eq_true (by omega), decide_eq_true (by omega)]; rfl
          have HW := As.mk hw
          clear hw
          go_wp2
          go_roundw
          case rel => exact ⟨k + 1, by go_num, by omega, ⟨by rw [HST.out, HW.out]; rfl⟩, ⟨trivial⟩⟩
          case measure => simp [intOf]; omega
    · have e : xs.take k = xs := List.take_of_length_le (by omega)
      rw [e] at HA
      clear e
      go_wp2
      go_ret
      exact ⟨by rw [HA.out]; rfl, rfl⟩

theorem isKey_any (s : ByteArray) (w : World) : Calls Tryz.prog 104 #[.string s] w fun e w' => e = .returned (.bool (decide (1 ≤ s.size ∧ s.size ≤ 64))) ∧ w' = w := by
  obtain ⟨n, hn⟩ : ∃ n, s.size = n := ⟨_, rfl⟩
  by_cases h1 : 1 ≤ n
  · have h1' : (1 : Int) ≤ (n : Int) := by omega
    by_cases h2 : n ≤ 64
    · have h2' : (n : Int) ≤ 64 := by omega
      go_enter Tryz.func104, Tryz.ntmps104
      go_wp2
      go_ret
      exact ⟨by rw [decide_eq_true (by omega)]; rfl, rfl⟩
    · have h2' : ¬ (n : Int) ≤ 64 := by omega
      go_enter Tryz.func104, Tryz.ntmps104
      go_wp2
      go_ret
      exact ⟨rfl, rfl⟩
  · have h1' : ¬ (1 : Int) ≤ (n : Int) := by omega
    go_enter Tryz.func104, Tryz.ntmps104
    go_wp2
    go_ret
    exact ⟨rfl, rfl⟩

end Go.Proofs.YtdiljpdohmeceaaGreat.opk

/- op.Encode. -/
namespace Go.Proofs.YtdiljpdohmeceaaGreat.opk
open Go.RowKit H O

theorem rd_new1 {w : World} (vs : List Value) (t : TypeId) : Rd (w.alloc (.cells vs.toArray t)) (some ⟨w.heap.size, 0, none⟩) vs := by
  intro j v hv
  refine ⟨_, rfl, ?_⟩
  rw [Addr.add_lit, World.cell?_alloc_new]
  simpa using hv
/-- a list of two rows, newly laid -/
theorem rs_two' {S : List Nat} {w : World} {A3 A4 : Option Addr} {n3 c3 n4 c4 : Nat} {xs ys : List Int} (h3 : xs.length = n3) (h4 : ys.length = n4) (r3 : RdS S w A3 (iv .u8 xs)) (r4 : RdS S w A4 (iv .u8 ys)) (l3 : n3 ≤ c3) (l4 : n4 ≤ c4) (e3 : A3 = none → c3 = 0) (e4 : A4 = none → c4 = 0) (u : TypeId)
    (hS : ∀ x ∈ S, x < w.heap.size) :
    Rs S (w.alloc (.cells #[.slice A3 n3 c3, .slice A4 n4 c4] u)) (some ⟨w.heap.size, 0, none⟩) [xs, ys] := by
  subst h3 h4
  intro j hj
  have k := (Kp.refl [] w).alloc (.cells #[.slice A3 xs.length c3, .slice A4 ys.length c4] u)
  have hc := World.cell?_alloc_new w #[.slice A3 xs.length c3, .slice A4 ys.length c4] u j
  match j, hj, hc with
  | 0, hj, hc => exact ⟨_, A3, c3, rfl, fun hm => by have := hS _ hm; simp at this, by rw [add_zero']; exact hc, l3, e3, r3.kp k (by simp)⟩
  | 1, hj, hc => exact ⟨_, A4, c4, rfl, fun hm => by have := hS _ hm; simp at this, by rw [Addr.add_lit]; exact hc, l4, e4, r4.kp k (by simp)⟩

/-- behind Encode -/
def EncPost (k cl sq : Int) (key : ByteArray) (text : List Int) (w : World) (e : Ending) (w' : World) : Prop :=
  ∃ v, e = .returned (.tuple #[v, .int .i64 (opErr k cl sq key.size text.length)]) ∧ Own 5 .u8 w' w.heap.size v (if opErr k cl sq key.size text.length = 0 then opBytes k cl sq key text else []) ∧ Kp [] w w'

theorem enc_none {k cl sq : Int} {key : ByteArray} {text : List Int} {w w' : World} {z : Int} (hz : z = opErr k cl sq key.size text.length) (h0 : z ≠ 0) (hk : Kp [] w w') : EncPost k cl sq key text w (.returned (.tuple #[.slice none 0 0, .int .i64 z])) w' := by
  subst hz
  refine ⟨_, rfl, ?_, hk⟩
  rw [if_neg h0]
  exact Own.nil _ _ _ _

/-- An op's block, as it lies. -/
def OpAt (w : World) (b : Nat) (k cl sq : Int) (key : ByteArray) (A : Option Addr) (n c : Nat) : Prop :=
  w.heap[b]? = some (.cells #[.int .i64 k, .int .i64 cl, .int .i64 sq, .string key, .slice A n c] 46)
theorem OpAt.cells {w : World} {b : Nat} {k cl sq : Int} {key : ByteArray} {A : Option Addr} {n c : Nat} (h : OpAt w b k cl sq key A n c) :
    w.cell? ⟨b, 0, none⟩ = some (.int .i64 k) ∧ w.cell? ⟨b, 1, none⟩ = some (.int .i64 cl) ∧ w.cell? ⟨b, 2, none⟩ = some (.int .i64 sq) ∧ w.cell? ⟨b, 3, none⟩ = some (.string key) ∧ w.cell? ⟨b, 4, none⟩ = some (.slice A n c) :=
  ⟨blk_cell h 0 rfl, blk_cell h 1 rfl, blk_cell h 2 rfl, blk_cell h 3 rfl, blk_cell h 4 rfl⟩
theorem OpAt.new (w : World) (k cl sq : Int) (key : ByteArray) (A : Option Addr) (n c : Nat) :
    OpAt (w.alloc (.cells #[.int .i64 k, .int .i64 cl, .int .i64 sq, .string key, .slice A n c] 46)) w.heap.size k cl sq key A n c := heap_alloc_new w _
theorem OpAt.kp {S : List Nat} {w w1 : World} {b : Nat} {k cl sq : Int} {key : ByteArray} {A : Option Addr} {n c : Nat} (h : OpAt w b k cl sq key A n c) (hk : Kp S w w1) (hb : b ∉ S) : OpAt w1 b k cl sq key A n c := hk.blk h hb
theorem heap_bytes (w : World) (e : TypeId) (s : ByteArray) (k : Nat) (o : Obj) (h : w.heap[k]? = some o) : (Lib.bytesWorld w e s).heap[k]? = some o := by
  rw [Lib.bytesWorld_at_old w e s k (lt_of_block h)]
  exact h
/-- A conversion's row, none of it in the blocks S. -/
theorem rds_bytes {S : List Nat} (w : World) (e : TypeId) (s : ByteArray) (hS : ∀ x ∈ S, x < w.heap.size) : RdS S (Lib.bytesWorld w e s) (some ⟨w.heap.size, 0, none⟩) (iv .u8 (kb s)) := by
  intro j v hv
  obtain ⟨a, ha, hc⟩ := rd_bytes w e s j v hv
  cases ha
  exact ⟨_, rfl, fun hm => by have := hS _ hm; simp at this, hc⟩
theorem rows2_len (a b : List Int) : (rows [a, b]).length ≤ 18 + a.length + b.length := by
  have := rows_len [a, b]
  simp only [List.length_cons, List.length_nil, List.flatten_cons, List.flatten_nil, List.length_append] at this
  omega

theorem enc_done {k cl sq : Int} {key : ByteArray} {text : List Int} {w w' : World} {v : Value} (he : opErr k cl sq key.size text.length = 0) (ho : Own 5 .u8 w' w.heap.size v (nums [k, cl, sq] ++ rows [kb key, text])) (hk : Kp [] w w') :
    EncPost k cl sq key text w (.returned (.tuple #[v, .int .i64 0])) w' := by
  refine ⟨v, by rw [he], ?_, hk⟩
  rw [he, if_pos rfl]
  exact ho
theorem nums3_len (a b c : Int) : (nums [a, b, c]).length ≤ 1000000 := by
  have := nums_len [a, b, c]
  simp only [List.length_cons, List.length_nil] at this
  omega
/-- the Writer, new, and its three numbers -/
theorem enc_nums (w : World) (k cl sq : Int) : Calls Tryz.prog 105 #[.pointer (some ⟨w.heap.size, 0, none⟩), .slice (some ⟨w.heap.size + 1, 0, none⟩) 3 3]
    ((w.alloc (.cells #[.slice none 0 0] 177)).alloc (.cells #[.int .i64 k, .int .i64 cl, .int .i64 sq] 3))
    (fun e w' => e = .returned (.tuple #[]) ∧ ∃ g, writer.Wr w' w.heap.size g (nums [k, cl, sq]) ∧ (∀ x, g = some x → w.heap.size < x) ∧ Kp [] w w' ∧ w.heap.size < w'.heap.size) := by
  have h := writer.nums_any w.heap.size none [] (some ⟨w.heap.size + 1, 0, none⟩) 3 3 [k, cl, sq] ((w.alloc (.cells #[.slice none 0 0] 177)).alloc (.cells #[.int .i64 k, .int .i64 cl, .int .i64 sq] 3))
    ((writer.Wr.new w).kp ((Kp.refl [] _).alloc _) (by simp) (by simp)) rfl (by
      have := RdS.lit (S := [w.heap.size]) (w.alloc (.cells #[.slice none 0 0] 177)) [.int .i64 k, .int .i64 cl, .int .i64 sq] 3 (by simp)
      simpa [iv] using this) (by decide)
  refine h.mono ?_
  rintro e w' ⟨rfl, g, W1, A1, K1⟩
  refine ⟨rfl, g, by simpa using W1, ?_, (((Kp.refl [] w).alloc _).alloc _).trans K1 (by simp), ?_⟩
  · intro x hx
    rcases A1 with h | ⟨j, h, hj⟩
    · rw [h] at hx; cases hx
    · rw [h] at hx; have := Option.some.inj hx; simp at hj; omega
  · have := K1.size
    simp at this
    omega
/-- the key and the text, on the Writer; and out -/
theorem enc_rows {w w3 : World} {b : Nat} {g : Option Nat} {ys : List Int} (key : ByteArray) (m : Nat) (hkm : key.size = m) (A : Option Addr) (n c : Nat) (text : List Int) (hn : text.length = n) (hr : Rd w A (iv .u8 text)) (hc : n ≤ c) (hnil : A = none → c = 0)
    (W3 : writer.Wr w3 b g ys) (hb : w.heap.size ≤ b) (hg : ∀ x, g = some x → w.heap.size ≤ x) (K3 : Kp [] w w3) (hm : m ≤ 1000000) (hn4 : n ≤ 1000000) (hy : ys.length ≤ 1000000) :
    Calls Tryz.prog 106 #[.pointer (some ⟨b, 0, none⟩), .slice (some ⟨w3.heap.size + 1, 0, none⟩) 2 2]
      ((Lib.bytesWorld w3 5 key).alloc (.cells #[.slice (some ⟨w3.heap.size, 0, none⟩) m (grownCap w3 m 0 5), .slice A n c] 24))
      (fun e w' => e = .returned (.tuple #[]) ∧ (Calls Tryz.prog 107 #[.pointer (some ⟨b, 0, none⟩)] w' fun e w'' => ∃ v, e = .returned v ∧ Own 5 .u8 w'' w.heap.size v (ys ++ rows [kb key, text]) ∧ Kp [] w w'')) := by
  have hlt := W3.lt
  have hs := K3.size
  have kB := kp_bytes (Kp.refl [] w3) 5 key
  have hsz := Lib.bytesWorld_size w3 5 key
  obtain ⟨w4, hw4⟩ : ∃ w4, w4 = Lib.bytesWorld w3 5 key := ⟨_, rfl⟩
  have hS : ∀ x ∈ b :: g.toList, w.heap.size ≤ x ∧ x < w3.heap.size := by
    intro x hx
    rcases List.mem_cons.1 hx with rfl | hx
    · exact ⟨hb, hlt.1⟩
    · exact ⟨hg x (by simpa using hx), hlt.2 x (by simpa using hx)⟩
  have hrk := rds_bytes (S := b :: g.toList) w3 5 key (fun x hx => (hS x hx).2)
  rw [← hw4] at kB hsz hrk ⊢
  have hrs := rs_two' (S := b :: g.toList) (w := w4) (n3 := m) (c3 := grownCap w3 m 0 5) (c4 := c) (by rw [kb_len, hkm]) hn hrk (RdS.new hr (K3.trans kB (by simp)) (fun x hx => (hS x hx).1)) (grownCap_ge _ _ _ _) hc (by simp) hnil 24 (fun x hx => by have := (hS x hx).2; omega)
  rw [hsz] at hrs
  have h := writer.bytes_any b g ys (some ⟨w3.heap.size + 1, 0, none⟩) 2 2 [kb key, text] _ ((W3.kp kB (by simp) (by simp)).kp ((Kp.refl [] w4).alloc (.cells #[.slice (some ⟨w3.heap.size, 0, none⟩) m (grownCap w3 m 0 5), .slice A n c] 24)) (by simp) (by simp)) rfl hrs (by simp [kb_len, hkm, hn]; omega)
  refine h.mono ?_
  rintro e w5 ⟨rfl, g5, W5, A5, K5⟩
  refine ⟨rfl, ?_⟩
  have hl := rows2_len (kb key) text
  rw [kb_len] at hl
  have K5' : Kp [] w w5 := ((K3.trans kB (by simp)).alloc _).trans K5 (fun x hx => .inr (hS x hx).1)
  refine (writer.out_any b g5 _ w5 W5 (by rw [List.length_append]; omega)).mono ?_
  rintro e w6 ⟨v, rfl, O6, K6⟩
  exact ⟨v, rfl, O6.lower K5'.size, K5'.trans K6 (by simp)⟩

set_option maxHeartbeats 4000000 in
set_option maxRecDepth 100000 in
-- PART P
theorem encode_ok (k cl sq : Int) (key : ByteArray) (m : Nat) (hkm : key.size = m) (A : Option Addr) (n c : Nat) (text : List Int) (w : World) (hn : text.length = n) (hr : Rd w A (iv .u8 text)) (hc : n ≤ c) (hnil : A = none → c = 0)
    (hk : k = 1 ∨ (k = 2 ∧ ¬ 0 < n)) (hb2 : (within1 cl && within1 sq) = true) (hb3 : 1 ≤ m ∧ m ≤ 64) (hb5 : n ≤ 4096) (he : opErr k cl sq m n = 0) :
    Calls Tryz.prog 74 #[.agg #[.int .i64 k, .int .i64 cl, .int .i64 sq, .string key, .slice A n c]] w (EncPost k cl sq key text w) := by
  have HR := As.mk hr
  have HN := As.mk hn
  have HC := As.mk hc
  have HNL := As.mk hnil
  have HE : As (opErr k cl sq key.size text.length = 0) := ⟨by rw [hkm, hn]; exact he⟩
  have HKM := As.mk hkm
  have HM64 := As.mk hb3.2
  have HW := As.mk (within_any (some ⟨w.heap.size + 1, 0, none⟩) 2 2 [cl, sq] ((w.alloc (.cells #[.int .i64 k, .int .i64 cl, .int .i64 sq, .string key, .slice A n c] 46)).alloc (.cells #[.int .i64 cl, .int .i64 sq] 3)) rfl
    (by have := rd_new1 (w := w.alloc (.cells #[.int .i64 k, .int .i64 cl, .int .i64 sq, .string key, .slice A n c] 46)) (iv .i64 [cl, sq]) 3; simpa [iv] using this) (by decide))
  have HBX0 : As (∀ w1, w1 = (w.alloc (.cells #[.int .i64 k, .int .i64 cl, .int .i64 sq, .string key, .slice A n c] 46)).alloc (.cells #[.int .i64 cl, .int .i64 sq] 3) →
      OpAt w1 w.heap.size k cl sq key A n c ∧ Kp [] w w1 ∧ w.heap.size < w1.heap.size) :=
    ⟨by rintro w1 rfl; exact ⟨blk_alloc (heap_alloc_new w _) _, ((Kp.refl [] w).alloc _).alloc _, by simp; omega⟩⟩
  have HI := As.mk (isKey_any key)
  have HB2 : As ([cl, sq].all within1 = true) := ⟨by simpa using hb2⟩
  have HB3 : As (decide (1 ≤ key.size ∧ key.size ≤ 64) = true) := ⟨by rw [decide_eq_true (by omega)]⟩
  rw [HB2.out] at HW
  rw [HB3.out] at HI
  have HCV : As (∀ w, (convert 9 24 (.string key)).run Tryz.prog w = .ok (.slice (some ⟨w.heap.size, 0, none⟩) m (grownCap w m 0 5)) (Lib.bytesWorld w 5 key)) := ⟨fun w => by
    rw [← hkm]
    exact Lib.run_convert_string_bytes w 9 24 5 key Tryz.underlying9 Tryz.underlying24 Tryz.underlying5⟩
  clear hr hn hc hnil he hkm hb2 hb3 HB2 HB3
  rcases hk with rfl | ⟨rfl, hn0⟩
  all_goals
    go_enter Tryz.func74, Tryz.ntmps74
    go_wp2_with (first
      | (go_at_call 103; (refine HW.out.mono ?_; rintro e w1 ⟨rfl, hw1⟩; obtain ⟨hbx, hk1, hs1⟩ := HBX0.out w1 hw1; have HBX := As.mk hbx; have HK1 := As.mk hk1; have HS1 := As.mk hs1; have hlt1 := hs1; obtain ⟨d0, d1, d2, d3, d4⟩ := hbx.cells; clear HW HBX0 hw1 hbx hk1 hs1))
      | (go_at_call 104; refine (HI.out _).mono ?_; rintro e w2 ⟨rfl, rfl⟩)
      | (go_at_call 105; refine (enc_nums _ _ _ _).mono ?_; rintro e w3 ⟨rfl, g3, W3, G3, K3, s3⟩; obtain ⟨e0, e1, e2, e3, e4⟩ := (HBX.out.kp K3 (by simp)).cells; have hsz4 := Lib.bytesWorld_size w3 5 key; have f4 := (Lib.bytesWorld_old w3 5 key ⟨w.heap.size, 4, none⟩ (Nat.lt_trans HS1.out s3)).trans e4; have hcv3 := HCV.out w3; have HROW := As.mk (enc_rows key m HKM.out A n c text HN.out HR.out HC.out HNL.out W3 HK1.out.size (fun x hx => Nat.le_trans HK1.out.size (Nat.le_of_lt (G3 x hx))) (HK1.out.trans K3 (by simp)) (by have := HM64.out; omega) (by omega) (nums3_len _ _ _)); clear W3 G3 K3 s3 hlt1 d0 d1 d2 d3 d4)
      | (go_at_call 106; refine HROW.out.mono ?_; rintro e w5 ⟨rfl, ho⟩; have HO := As.mk ho; clear ho HROW)
      | (go_at_call 107; refine HO.out.mono ?_; rintro e w6 ⟨v, rfl, O6, K6⟩; have HO6 := As.mk O6; have HK6 := As.mk K6; clear O6 K6 HO))
    go_ret2
    exact enc_done HE.out HO6.out HK6.out
-- END P
theorem opErr_ne {k cl sq : Int} {m n : Nat} : opErr k cl sq m n = 0 ↔ (k = 1 ∨ (k = 2 ∧ ¬ 0 < n)) ∧ (within1 cl && within1 sq) = true ∧ (1 ≤ m ∧ m ≤ 64) ∧ n ≤ 4096 := by
  unfold opErr
  cases hb : (within1 cl && within1 sq) <;> split <;> rename_i h
  · simp
  · simp at h
  · simp only [Bool.true_eq_false, false_or] at h
    constructor
    · intro h0; cases h0
    · rintro ⟨h1, -, h2, h3⟩; omega
  · simp only [Bool.true_eq_false, false_or] at h
    split
    · constructor
      · intro h0; cases h0
      · rintro ⟨h1, -, h2, h3⟩; omega
    · constructor
      · intro _; exact ⟨by omega, rfl, by omega, by omega⟩
      · intro _; rfl

set_option maxHeartbeats 4000000 in
set_option maxRecDepth 100000 in
-- PART Q
theorem encode_no (k cl sq : Int) (key : ByteArray) (m : Nat) (hkm : key.size = m) (A : Option Addr) (n c : Nat) (text : List Int) (w : World) (hn : text.length = n) (hm : n ≤ 4611686018427387904) (he : opErr k cl sq m n ≠ 0) :
    Calls Tryz.prog 74 #[.agg #[.int .i64 k, .int .i64 cl, .int .i64 sq, .string key, .slice A n c]] w (EncPost k cl sq key text w) := by
  have HWX : As (∀ b, (within1 cl && within1 sq) = b → Calls Tryz.prog 103 #[.slice (some ⟨w.heap.size + 1, 0, none⟩) 2 2] ((w.alloc (.cells #[.int .i64 k, .int .i64 cl, .int .i64 sq, .string key, .slice A n c] 46)).alloc (.cells #[.int .i64 cl, .int .i64 sq] 3))
    fun e w1 => e = .returned (.bool b) ∧ OpAt w1 w.heap.size k cl sq key A n c ∧ Kp [] w w1 ∧ w.heap.size < w1.heap.size) := ⟨fun b hb => by
      refine (within_any (some ⟨w.heap.size + 1, 0, none⟩) 2 2 [cl, sq] ((w.alloc (.cells #[.int .i64 k, .int .i64 cl, .int .i64 sq, .string key, .slice A n c] 46)).alloc (.cells #[.int .i64 cl, .int .i64 sq] 3)) rfl
        (by have := rd_new1 (w := w.alloc (.cells #[.int .i64 k, .int .i64 cl, .int .i64 sq, .string key, .slice A n c] 46)) (iv .i64 [cl, sq]) 3; simpa [iv] using this) (by decide)).mono ?_
      rintro e w1 ⟨rfl, rfl⟩
      refine ⟨by rw [← hb]; simp, blk_alloc (heap_alloc_new w _) _, ((Kp.refl [] w).alloc _).alloc _, by simp; omega⟩⟩
  have HIX : As (∀ b, decide (1 ≤ m ∧ m ≤ 64) = b → ∀ w, Calls Tryz.prog 104 #[.string key] w fun e w' => e = .returned (.bool b) ∧ w' = w) := ⟨fun b hb w => by
    have h := isKey_any key w
    rwa [hkm, hb] at h⟩
  by_cases h1 : k = 1 ∨ k = 2
  · cases hw : (within1 cl && within1 sq) with
    | false =>
      have HE : As (1 = opErr k cl sq key.size text.length) := ⟨by rw [opErr, if_pos (.inr (.inl hw))]⟩
      have HW := As.mk (HWX.out false hw)
      clear hw he HWX HIX hn hkm
      rcases h1 with rfl | rfl
      all_goals
        go_enter Tryz.func74, Tryz.ntmps74
        go_wp2_with (go_at_call 103; refine HW.out.mono ?_; rintro e w1 ⟨rfl, hbx, hk1, hs1⟩; have HK1 := As.mk hk1; clear HW hbx hk1 hs1)
        go_ret2
        exact enc_none HE.out (by decide) HK1.out
    | true =>
      have HW := As.mk (HWX.out true hw)
      cases hb : decide (1 ≤ m ∧ m ≤ 64) with
      | false =>
        have HE : As (1 = opErr k cl sq key.size text.length) := ⟨by rw [hkm, opErr, if_pos (.inr (.inr (.inl (of_decide_eq_false hb))))]⟩
        have HI := As.mk (HIX.out false hb)
        clear hw he HWX HIX hn hkm hb
        rcases h1 with rfl | rfl
        all_goals
          go_enter Tryz.func74, Tryz.ntmps74
          go_wp2_with (first
            | (go_at_call 103; refine HW.out.mono ?_; rintro e w1 ⟨rfl, hbx, hk1, hs1⟩; have HK1 := As.mk hk1; obtain ⟨d0, d1, d2, d3, d4⟩ := hbx.cells; clear HW hbx hk1 hs1)
            | (go_at_call 104; refine (HI.out _).mono ?_; rintro e w2 ⟨rfl, rfl⟩))
          go_ret2
          exact enc_none HE.out (by decide) HK1.out
      | true =>
        have HI := As.mk (HIX.out true hb)
        by_cases h2 : k = 2 ∧ 0 < n
        · have HE : As (1 = opErr k cl sq key.size text.length) := ⟨by rw [hkm, hn, opErr, if_pos (.inr (.inr (.inr h2)))]⟩
          clear hw he HWX HIX hn hkm hb h1
          obtain ⟨rfl, hn0⟩ := h2
          go_enter Tryz.func74, Tryz.ntmps74
          go_wp2_with (first
            | (go_at_call 103; refine HW.out.mono ?_; rintro e w1 ⟨rfl, hbx, hk1, hs1⟩; have HK1 := As.mk hk1; obtain ⟨d0, d1, d2, d3, d4⟩ := hbx.cells; clear HW hbx hk1 hs1)
            | (go_at_call 104; refine (HI.out _).mono ?_; rintro e w2 ⟨rfl, rfl⟩))
          go_ret2
          exact enc_none HE.out (by decide) HK1.out
        · have hmk := of_decide_eq_true hb
          have hn5 : 4096 < n := by
            rcases Nat.lt_or_ge 4096 n with h | h
            · exact h
            · exact absurd (opErr_ne.2 ⟨by omega, hw, hmk, h⟩) he
          have hk1 : k = 1 := by omega
          have HE : As (5 = opErr k cl sq key.size text.length) := ⟨by rw [hkm, hn, opErr, if_neg (by rw [hw]; simp only [Bool.true_eq_false, false_or]; omega), if_pos hn5]⟩
          clear hw he HWX HIX hn hkm hb h1 hmk h2
          subst hk1
          go_enter Tryz.func74, Tryz.ntmps74
          go_wp2_with (first
            | (go_at_call 103; refine HW.out.mono ?_; rintro e w1 ⟨rfl, hbx, hk1, hs1⟩; have HK1 := As.mk hk1; obtain ⟨d0, d1, d2, d3, d4⟩ := hbx.cells; clear HW hbx hk1 hs1)
            | (go_at_call 104; refine (HI.out _).mono ?_; rintro e w2 ⟨rfl, rfl⟩))
          go_ret2
          exact enc_none HE.out (by decide) HK1.out
  · have HE : As (1 = opErr k cl sq key.size text.length) := ⟨by rw [opErr, if_pos (.inl (by omega))]⟩
    have hk1 : (k != 1) = true := by simp; omega
    have hk2 : (k != 2) = true := by simp; omega
    have HK1 := As.mk ((Kp.refl [] w).alloc (.cells #[.int .i64 k, .int .i64 cl, .int .i64 sq, .string key, .slice A n c] 46))
    clear h1 he HWX HIX hn hkm
    go_enter Tryz.func74, Tryz.ntmps74
    go_wp2
    go_ret2
    exact enc_none HE.out (by decide) HK1.out
-- END Q

/-- Encode -/
theorem encode_any (k cl sq : Int) (key : ByteArray) (A : Option Addr) (n c : Nat) (text : List Int) (w : World) (hn : text.length = n) (hr : Rd w A (iv .u8 text)) (hc : n ≤ c) (hnil : A = none → c = 0) (hm : n ≤ 4611686018427387904) :
    Calls Tryz.prog 74 #[.agg #[.int .i64 k, .int .i64 cl, .int .i64 sq, .string key, .slice A n c]] w (EncPost k cl sq key text w) := by
  by_cases h : opErr k cl sq key.size n = 0
  · obtain ⟨h1, h2, h3, h4⟩ := opErr_ne.1 h
    exact encode_ok k cl sq key _ rfl A n c text w hn hr hc hnil h1 h2 h3 h4 h
  · exact encode_no k cl sq key _ rfl A n c text w hn hm h
end Go.Proofs.YtdiljpdohmeceaaGreat.opk

/- haystacklaw13.same answers whether two rows of bytes are one. -/
namespace Go.Proofs.YtdiljpdohmeceaaGreat.haystacklaw13
open Go.RowKit H

theorem ret_bool {a b : Bool} (h : a = b) : Ending.returned (.bool a) = .returned (.bool b) := by rw [h]

theorem take_eq_step {xs ys : List Int} {k : Nat} (h : xs.take k = ys.take k) (hx : k < xs.length) (hy : k < ys.length) (he : xs[k] = ys[k]) : xs.take (k + 1) = ys.take (k + 1) := by
  rw [List.take_succ_eq_append_getElem hx, List.take_succ_eq_append_getElem hy, h, he]

end Go.Proofs.YtdiljpdohmeceaaGreat.haystacklaw13

/- haystacklaw13's helpers: roomy, stands, spoil. -/
namespace Go.Proofs.YtdiljpdohmeceaaGreat.haystacklaw13
open Go.RowKit H

theorem info_u8 : (Tryz.prog.info? 5).map (fun i => (i.zero, i.size, i.bytes)) = some (some (.int .u8 0), 1, 1) := by kernel_rfl

theorem stands_split {zs ys : List Int} (hl : zs.length = ys.length + 1) (he : zs.take ys.length = ys) : zs = ys ++ [zs[ys.length]] := by
  have := (List.take_succ_eq_append_getElem (l := zs) (i := ys.length) (by omega)).symm
  rw [he, List.take_of_length_le (by omega)] at this
  exact this.symm

end Go.Proofs.YtdiljpdohmeceaaGreat.haystacklaw13

/- haystacklaw13: known, ops. -/
namespace Go.Proofs.YtdiljpdohmeceaaGreat.haystacklaw13
open Go.RowKit H O opk

theorem known_bytes : opBytes 1 1 2 ⟨#[107]⟩ [116] = [1, 1, 2, 1, 107, 1, 116] := by
  have h1 : num 1 = [1] := enc_lo (by decide)
  have h2 : num 2 = [2] := enc_lo (by decide)
  have hk : kb ⟨#[107]⟩ = [107] := rfl
  simp [opBytes, nums, rows, row, h1, h2, hk]
theorem known_err : opErr 1 1 2 (ByteArray.size ⟨#[107]⟩) (List.length [(116 : Int)]) = 0 := by decide

theorem str_eq {a b : ByteArray} (h : a.toList = b.toList) : a = b := by
  rw [ByteArray.toList_eq, ByteArray.toList_eq] at h
  exact WideShapes.bytes_inj h
end Go.Proofs.YtdiljpdohmeceaaGreat.haystacklaw13

/- An op's bytes tell the op. -/
namespace Go.Proofs.YtdiljpdohmeceaaGreat.haystacklaw13
open Go.RowKit H O opk

theorem num_inj {a b : Int} {r s : List Int} (ha : 0 ≤ a) (ha2 : a ≤ 4611686018427387904) (hb : 0 ≤ b) (hb2 : b ≤ 4611686018427387904) (h : num a ++ r = num b ++ s) : a = b ∧ r = s := by
  have h1 := stNum_num a r
  rw [h, stNum_num b s] at h1
  have h2 := cl_of ha ha2
  have h3 := cl_of hb hb2
  obtain ⟨h4, h5⟩ := Prod.mk.injEq .. ▸ h1
  exact ⟨by omega, (Option.some.inj h5).symm⟩
theorem row_inj {a b r s : List Int} (ha : a.length ≤ 4611686018427387904) (hb : b.length ≤ 4611686018427387904) (h : row a ++ r = row b ++ s) : a = b ∧ r = s := by
  have h1 := stBytes_row a r ha
  rw [h, stBytes_row b s hb] at h1
  obtain ⟨h4, h5⟩ := Prod.mk.injEq .. ▸ h1
  exact ⟨h4.symm, (Option.some.inj h5).symm⟩
theorem within1_le {x : Int} (h : within1 x = true) : 0 ≤ x ∧ x ≤ 4611686018427387904 := by
  unfold within1 at h
  simp only [Bool.and_eq_true, decide_eq_true_eq] at h
  omega
theorem row_len (x : List Int) : (row x).length ≤ 9 + x.length := by
  have := num_len (x.length : Int)
  simp only [row, List.length_append]
  omega
theorem opBytes_eq (k c s : Int) (key : ByteArray) (x : List Int) : opBytes k c s key x = num k ++ (num c ++ (num s ++ (row (kb key) ++ (row x ++ [])))) := by
  simp [opBytes, nums_cons, nums_nil, rows]
theorem ob_inj' {k1 c1 s1 k2 c2 s2 : Int} {key1 key2 : ByteArray} {x y : List Int} (h1 : 0 ≤ k1 ∧ k1 ≤ 4611686018427387904) (h2 : 0 ≤ c1 ∧ c1 ≤ 4611686018427387904) (h3 : 0 ≤ s1 ∧ s1 ≤ 4611686018427387904)
    (g1 : 0 ≤ k2 ∧ k2 ≤ 4611686018427387904) (g2 : 0 ≤ c2 ∧ c2 ≤ 4611686018427387904) (g3 : 0 ≤ s2 ∧ s2 ≤ 4611686018427387904) (l1 : (kb key1).length ≤ 4611686018427387904) (l2 : (kb key2).length ≤ 4611686018427387904)
    (m1 : x.length ≤ 4611686018427387904) (m2 : y.length ≤ 4611686018427387904) (h : opBytes k1 c1 s1 key1 x = opBytes k2 c2 s2 key2 y) : k1 = k2 ∧ c1 = c2 ∧ s1 = s2 ∧ key1 = key2 ∧ x = y := by
  rw [opBytes_eq, opBytes_eq] at h
  have f1 := num_inj h1.1 h1.2 g1.1 g1.2 h
  have f2 := num_inj h2.1 h2.2 g2.1 g2.2 f1.2
  have f3 := num_inj h3.1 h3.2 g3.1 g3.2 f2.2
  have f4 := row_inj l1 l2 f3.2
  have f5 := row_inj m1 m2 f4.2
  exact ⟨f1.1, f2.1, f3.1, kb_inj f4.1, f5.1⟩
theorem ob_lim {k c s : Int} {m n : Nat} (h : opErr k c s m n = 0) : (0 ≤ k ∧ k ≤ 4611686018427387904) ∧ (0 ≤ c ∧ c ≤ 4611686018427387904) ∧ (0 ≤ s ∧ s ≤ 4611686018427387904) ∧ m ≤ 64 ∧ n ≤ 4096 := by
  obtain ⟨a1, a2, a3, a4⟩ := opErr_ne.1 h
  rw [Bool.and_eq_true] at a2
  have h9 : 0 ≤ k ∧ k ≤ 2 := by omega
  exact ⟨⟨h9.1, Int.le_trans h9.2 (by decide)⟩, within1_le a2.1, within1_le a2.2, a3.2, a4⟩
theorem ob_inj {k1 c1 s1 k2 c2 s2 : Int} {key1 key2 : ByteArray} {x y : List Int} (h1 : opErr k1 c1 s1 key1.size x.length = 0) (h2 : opErr k2 c2 s2 key2.size y.length = 0) :
    opBytes k1 c1 s1 key1 x = opBytes k2 c2 s2 key2 y ↔ (k1 = k2 ∧ c1 = c2 ∧ s1 = s2 ∧ key1 = key2 ∧ x = y) := by
  obtain ⟨a1, a2, a3, a4, a5⟩ := ob_lim h1
  obtain ⟨b1, b2, b3, b4, b5⟩ := ob_lim h2
  constructor
  · exact ob_inj' a1 a2 a3 b1 b2 b3 (by rw [kb_len]; omega) (by rw [kb_len]; omega) (by omega) (by omega)
  · rintro ⟨rfl, rfl, rfl, rfl, rfl⟩
    rfl

theorem encode_good (k cl sq : Int) (key : ByteArray) (A : Option Addr) (n c : Nat) (text : List Int) (w : World) (hn : text.length = n) (hr : Rd w A (iv .u8 text)) (hc : n ≤ c) (hnil : A = none → c = 0) (he : opErr k cl sq key.size text.length = 0)
    (X : List Int) (hX : X = opBytes k cl sq key text) (N : Nat) (hN : X.length = N) :
    Calls Tryz.prog 74 #[.agg #[.int .i64 k, .int .i64 cl, .int .i64 sq, .string key, .slice A n c]] w fun e w' =>
      ∃ A3 c3, e = .returned (.tuple #[.slice A3 N c3, .int .i64 0]) ∧ Rd w' A3 (iv .u8 X) ∧ Kp [] w w' ∧ N ≤ c3 ∧ c3 ≤ maxLen ∧ (A3 = none → c3 = 0) := by
  have h9 := (opErr_ne.1 he).2.2.2
  refine (encode_any k cl sq key A n c text w hn hr hc hnil (by omega)).mono ?_
  rintro e w' ⟨v, rfl, O, K⟩
  rw [he, if_pos rfl, ← hX] at O
  rw [he]
  obtain ⟨A3, c3, rfl, h1, h2, h3, h4⟩ := own_rd O.1
  rw [hN] at h1 ⊢
  exact ⟨A3, c3, rfl, h3, K, h1, h2, h4⟩
end Go.Proofs.YtdiljpdohmeceaaGreat.haystacklaw13

/- What a Reader (type octet.Reader) holds. -/
namespace Go.Proofs.YtdiljpdohmeceaaGreat.reader
open Go.RowKit H O

/-- The Reader in block b: what is left of its bytes (in block g), or nothing: it erred. -/
def Rdr (w : World) (b : Nat) (g : Option Nat) (s : Option (List Int)) : Prop :=
  ∃ A c, w.heap[b]? = some (.cells #[.slice A (left s).length c, .bool s.isNone] 186 (0, 0)) ∧ A.map Addr.block = g ∧ Rd w A (iv .u8 (left s)) ∧ (left s).length ≤ c ∧ c ≤ 9223372036854775807 ∧
    (A = none → c = 0) ∧ g ≠ some b ∧ Wf (left s)
/-- Behind a call of a Reader's. -/
def RdrPost (b : Nat) (g : Option Nat) (val : Value) (s : Option (List Int)) (w : World) (e : Ending) (w' : World) : Prop :=
  e = .returned val ∧ ∃ g', Rdr w' b g' s ∧ (g' = g ∨ g' = none) ∧ Kp [b] w w'
/-- A new Reader. -/
def NewRdr (xs : List Int) (w : World) (e : Ending) (w' : World) : Prop :=
  ∃ b g, e = .returned (.pointer (some ⟨b, 0, none⟩)) ∧ Rdr w' b g (some xs) ∧ w.heap.size ≤ b ∧ (∀ x, g = some x → w.heap.size ≤ x ∧ x < w'.heap.size) ∧ Kp [] w w'

theorem Rdr.kp {w w1 : World} {b : Nat} {g : Option Nat} {s : Option (List Int)} {S : List Nat} (h : Rdr w b g s) (k : Kp S w w1) (hb : b ∉ S) (hg : ∀ x, g = some x → x ∉ S) : Rdr w1 b g s := by
  obtain ⟨A, c, h1, rfl, h3, h4, h5, h6, h7, h8⟩ := h
  exact ⟨A, c, k.blk h1 hb, rfl, k.rd h3 (fun a ha => hg _ (by simp [ha])), h4, h5, h6, h7, h8⟩
theorem Rdr.lt {w : World} {b : Nat} {g : Option Nat} {s : Option (List Int)} (h : Rdr w b g s) : b < w.heap.size := by
  obtain ⟨A, c, h1, _⟩ := h
  exact lt_of_block h1

theorem stNum_none {s : Option (List Int)} (h : dec (left s) = none) : stNum s = (0, none) := by
  cases s with
  | none => rfl
  | some l => simp only [left, Option.getD_some] at h; simp [stNum, h]
theorem stNum_some {s : Option (List Int)} {v : Nat} {r : List Int} (h : dec (left s) = some (v, r)) : stNum s = (v, some r) := by
  cases s with
  | none => simp [left, dec, decF] at h
  | some l => simp only [left, Option.getD_some] at h; simp [stNum, h]
theorem num_fail {b : Nat} {g : Option Nat} {s : Option (List Int)} {xs : List Int} {w w1 : World} (hx : xs = left s) (hd : decF 0 0 xs = none) (h : RdrPost b g (.tuple #[]) none w (.returned (.tuple #[])) w1) :
    RdrPost b g (.int .i64 ((stNum s).1 : Int)) (stNum s).2 w (.returned (.int .i64 0)) w1 := by
  subst hx
  rw [stNum_none hd]
  exact ⟨rfl, h.2⟩

theorem num_ok {b k c c' u1 : Nat} {a a' : Addr} {s : Option (List Int)} {xs : List Int} {w : World} (hb : w.heap[b]? = some (.cells #[.slice (some a) xs.length c, .bool s.isNone] 186 (0, 0)))
    (hR : Rdr w b (some a.block) s) (hx : xs = left s) (hd : decF 0 0 xs = some (u1, xs.drop (k + 1))) (hr : Rd w (some a') (iv .u8 (xs.drop (k + 1)))) (ha : a'.block = a.block) (hl : xs.length - (k + 1) ≤ c') (hc : c' ≤ 9223372036854775807) :
    RdrPost b (some a.block) (.int .i64 ((stNum s).1 : Int)) (stNum s).2 w (.returned (.int .i64 (u1 : Int))) (w.setCell ⟨b, 0, none⟩ (.slice (some a') (xs.length - (k + 1)) c')) := by
  obtain ⟨_, _, _, _, _, _, _, _, hne, hw⟩ := hR
  subst hx
  rw [stNum_some hd]
  have hs : s.isNone = false := by
    cases s with
    | none => simp [left, decF] at hd
    | some l => rfl
  rw [hs] at hb
  have hk := (Kp.refl [b] w).setCell (a := ⟨b, 0, none⟩) (.inl (by simp)) (.slice (some a') ((left s).length - (k + 1)) c')
  refine ⟨rfl, some a.block, ⟨some a', c', ?_, by simp [ha], ?_, by simpa [left] using hl, hc, by simp, hne, hw.drop _⟩, .inl rfl, hk⟩
  · have := heap_setCell_same w b 0 _ _ (.slice (some a') ((left s).length - (k + 1)) c') hb
    simpa [left] using this
  · exact hk.rd hr (fun x hx => by cases hx; rw [ha]; intro hm; exact hne (by simpa using hm))

theorem left_le {s : Option (List Int)} {m : Nat} (h : (left s).length ≤ m) : (left (stNum s).2).length ≤ m := by
  cases s with
  | none => simpa [stNum] using h
  | some l =>
    simp only [left, Option.getD_some] at h
    cases hd : dec l with
    | none => simp [stNum, hd, left]
    | some p =>
      obtain ⟨v, r⟩ := p
      obtain ⟨q, e, _⟩ := dec_suffix hd
      simp only [stNum, hd, left, Option.getD_some]
      have := congrArg List.length e
      simp only [List.length_append] at this
      omega

/-- Nothing went wrong, and nothing is left. -/
def whole (s : Option (List Int)) : Bool := s == some []
theorem left_map (s : Option (List Int)) (n : Nat) : left (s.map (·.drop n)) = (left s).drop n := by cases s <;> simp [left]
theorem Rdr.cut {b n c c' : Nat} {a a' : Addr} {s : Option (List Int)} {w : World} (hb : w.heap[b]? = some (.cells #[.slice (some a) (left s).length c, .bool s.isNone] 186 (0, 0)))
    (hne : some a.block ≠ some b) (hw : Wf (left s)) (hr : Rd w (some a') (iv .u8 ((left s).drop n))) (ha : a'.block = a.block) (hl : (left s).length - n ≤ c') (hc : c' ≤ 9223372036854775807) :
    Rdr (w.setCell ⟨b, 0, none⟩ (.slice (some a') ((left s).length - n) c')) b (some a.block) (s.map (·.drop n)) ∧ Kp [b] w (w.setCell ⟨b, 0, none⟩ (.slice (some a') ((left s).length - n) c')) := by
  have hk := (Kp.refl [b] w).setCell (a := ⟨b, 0, none⟩) (.inl (by simp)) (.slice (some a') ((left s).length - n) c')
  refine ⟨⟨some a', c', ?_, by simp [ha], ?_, by rw [left_map]; simpa using hl, hc, by simp, hne, by rw [left_map]; exact hw.drop _⟩, hk⟩
  · have := heap_setCell_same w b 0 _ _ (.slice (some a') ((left s).length - n) c') hb
    rw [left_map]
    simpa using this
  · rw [left_map]
    exact hk.rd hr (fun x hx => by cases hx; rw [ha]; intro hm; exact hne (by simpa using hm))

/-- Behind Raw: the bytes that came, in new memory; what the Reader holds. -/
def RawPost (b : Nat) (g : Option Nat) (r : List Int × Option (List Int)) (w : World) (e : Ending) (w' : World) : Prop :=
  ∃ v, e = .returned v ∧ Own 5 .u8 w' w.heap.size v r.1 ∧ ∃ g', Rdr w' b g' r.2 ∧ (g' = g ∨ g' = none) ∧ Kp [b] w w'

theorem stRaw_bad {s : Option (List Int)} {n : Int} (h : n < 0 ∨ ((left s).length : Int) < n) : stRaw n s = ([], none) := by
  cases s with
  | none => rfl
  | some l => simp only [stRaw]; rw [if_pos (by simpa [left] using h)]
theorem stRaw_good {s : Option (List Int)} {m : Nat} (h : m ≤ (left s).length) : stRaw (m : Int) s = ((left s).take m, s.map (·.drop m)) := by
  cases s with
  | none => simp [stRaw, left]
  | some l => simp only [stRaw]; rw [if_neg (by simp [left] at h ⊢; omega)]; simp [left]

theorem raw_ok {b m c c' len : Nat} {a a' : Addr} {s : Option (List Int)} {w w1 : World} {v : Value} (hR : Rdr w b (some a.block) s) (hl : (left s).length = len)
    (hb1 : w1.heap[b]? = some (.cells #[.slice (some a) len c, .bool s.isNone] 186 (0, 0))) (ho : Own 5 .u8 w1 w.heap.size v ((left s).take m)) (hk : Kp [] w w1)
    (hr : Rd w (some a') (iv .u8 ((left s).drop m))) (ha : a'.block = a.block) (hle : len - m ≤ c') (hc : c' ≤ 9223372036854775807) :
    RawPost b (some a.block) ((left s).take m, s.map (·.drop m)) w (.returned v) (w1.setCell ⟨b, 0, none⟩ (.slice (some a') (len - m) c')) := by
  have hlt := hR.lt
  obtain ⟨_, _, _, _, _, _, _, _, hne, hw⟩ := hR
  subst hl
  obtain ⟨h1, h2⟩ := Rdr.cut (n := m) (a' := a') (c' := c') hb1 hne hw (hk.rd hr (fun _ _ => by simp)) ha hle hc
  refine ⟨v, rfl, ho.kp h2 ?_, some a.block, h1, .inl rfl, (hk.mono (by simp)).trans h2 (fun x hx => .inl hx)⟩
  intro g hg
  have := ho.2 g hg
  simp
  omega

theorem raw_nil {b : Nat} {s : Option (List Int)} {w w1 : World} {v : Value} (hR : Rdr w b none s) (hl : (left s).length = 0)
    (hb1 : w1.heap[b]? = some (.cells #[.slice none 0 0, .bool s.isNone] 186 (0, 0))) (ho : Own 5 .u8 w1 w.heap.size v ((left s).take 0)) (hk : Kp [] w w1) :
    RawPost b none ((left s).take 0, s.map (·.drop 0)) w (.returned v) (w1.setCell ⟨b, 0, none⟩ (.slice none 0 0)) := by
  have hlt := hR.lt
  have e : s.map (·.drop 0) = s := by cases s <;> simp
  have e0 : left s = [] := List.eq_nil_of_length_eq_zero hl
  have h2 := (Kp.refl [b] w1).setCell (a := ⟨b, 0, none⟩) (.inl (by simp)) (.slice none 0 0)
  rw [e]
  refine ⟨v, rfl, ho.kp h2 ?_, none, ⟨none, 0, ?_, rfl, by rw [e0]; exact Rd.nil _ _, by show (left s).length ≤ 0; omega, by omega, fun _ => rfl, by simp, by rw [e0]; exact Wf.nil⟩, .inl rfl, (hk.mono (by simp)).trans h2 (fun x hx => .inl hx)⟩
  · intro g hg
    have := ho.2 g hg
    simp
    omega
  · have := heap_setCell_same w1 b 0 _ _ (.slice none 0 0) hb1
    rw [hl]
    simpa using this


/-- Bad's two stores. -/
theorem Rdr.bad {w : World} {b : Nat} {g : Option Nat} {cs : Array Value} {x y : Value} (hcs : cs = #[x, y]) (hb : w.heap[b]? = some (.cells cs 186 (0, 0))) :
    RdrPost b g (.tuple #[]) none w (.returned (.tuple #[])) ((w.setCell ⟨b, 0, none⟩ (.slice none 0 0)).setCell ⟨b, 1, none⟩ (.bool true)) ∧
    RdrPost b g (.tuple #[]) none w (.returned (.tuple #[])) ((w.setCell ⟨b, 1, none⟩ (.bool true)).setCell ⟨b, 0, none⟩ (.slice none 0 0)) := by
  subst hcs
  refine ⟨⟨rfl, none, ⟨none, 0, ?_, rfl, Rd.nil _ _, Nat.le_refl _, by omega, fun _ => rfl, by simp, Wf.nil⟩, .inr rfl, ?_⟩, ⟨rfl, none, ⟨none, 0, ?_, rfl, Rd.nil _ _, Nat.le_refl _, by omega, fun _ => rfl, by simp, Wf.nil⟩, .inr rfl, ?_⟩⟩
  · have h1 := heap_setCell_same w b 0 _ _ (.slice none 0 0) hb
    exact heap_setCell_same _ b 1 _ _ (.bool true) h1
  · exact ((Kp.refl [b] w).setCell (.inl (by simp)) _).setCell (.inl (by simp)) _
  · have h1 := heap_setCell_same w b 1 _ _ (.bool true) hb
    exact heap_setCell_same _ b 0 _ _ (.slice none 0 0) h1
  · exact ((Kp.refl [b] w).setCell (.inl (by simp)) _).setCell (.inl (by simp)) _
theorem RdrPost.none_of {b : Nat} {g g' : Option Nat} {w w1 w2 : World} {v u : Value} (h : RdrPost b g' v none w1 (.returned v) w2) (hg : g' = g ∨ g' = none) (hk : Kp [b] w w1) : RdrPost b g u none w (.returned u) w2 := by
  obtain ⟨_, g2, h1, h2, h3⟩ := h
  refine ⟨rfl, g2, h1, ?_, hk.trans h3 (fun x hx => .inl hx)⟩
  rcases h2 with rfl | rfl
  · exact hg
  · exact .inr rfl

end Go.Proofs.YtdiljpdohmeceaaGreat.reader

/- octet.Reader: what it holds (Rdr), and its methods. -/
namespace Go.Proofs.YtdiljpdohmeceaaGreat.reader
open Go.RowKit H O

set_option maxHeartbeats 1000000 in
theorem new_any (A : Option Addr) (n c : Nat) (xs : List Int) (w : World) (hn : xs.length = n) (h0 : Rd w A (iv .u8 xs)) (hnil : A = none → c = 0) (hb : n ≤ 140737488351232) (hw : Wf xs) :
    Calls Tryz.prog 86 #[.slice A n c] w (NewRdr xs w) := by
  subst hn
  have HC := As.mk (clone.clone_any A xs.length c xs w rfl h0 hnil (by omega))
  have HW := As.mk hw
  clear h0 hnil hw
  go_enter Tryz.func86, Tryz.ntmps86
  go_wp2_with (go_at_call 118; refine HC.out.mono ?_; rintro e w1 ⟨v, rfl, ho, hk⟩; obtain ⟨A1, c1, rfl, hl1, hm1, hr1, hn1⟩ := own_rd ho.1; have HO := As.mk ho; have HK := As.mk hk; have HR := As.mk hr1; have HN := As.mk hn1; have HL := As.mk hl1; have HM := As.mk hm1; clear ho hk hr1 hn1 hl1 hm1)
  go_ret
  refine ⟨w1.heap.size, A1.map Addr.block, rfl, ⟨A1, c1, heap_alloc_new w1 _, rfl, ((Kp.refl [] w1).alloc _).rd_new HR.out (by simp), HL.out, HM.out, HN.out, ?_, HW.out⟩, HK.out.size, ?_, HK.out.alloc _⟩
  · intro h
    have := own_lt HO.out.1 w1.heap.size (by rw [ownBlock_slice]; exact h)
    omega
  · intro x hx
    have hx' : (Value.slice A1 xs.length c1).ownBlock = some x := by rw [ownBlock_slice]; exact hx
    have := own_lt HO.out.1 x hx'
    exact ⟨HO.out.2 x hx', by rw [World.size_alloc]; omega⟩

theorem bad_any (b : Nat) (g : Option Nat) (s : Option (List Int)) (w : World) (hR : Rdr w b g s) :
    Calls Tryz.prog 89 #[.pointer (some ⟨b, 0, none⟩)] w (RdrPost b g (.tuple #[]) none w) := by
  obtain ⟨A, c, hb, rfl, hr, hl, hm, hn, hne, hw⟩ := hR
  have c0 := blk_cell hb 0 rfl
  have c1 := blk_cell hb 1 rfl
  have f0 := blk_free hb 0
  have f1 := blk_free hb 1
  have HB := As.mk hb
  clear hb hr hl hm hn hne hw
  go_enter Tryz.func89, Tryz.ntmps89
  go_wp2
  go_end0
  refine ⟨rfl, none, ⟨none, 0, ?_, rfl, Rd.nil _ _, Nat.le_refl _, by omega, fun _ => rfl, by simp, Wf.nil⟩, .inr rfl, ?_⟩
  · have h1 := heap_setCell_same w b 0 _ _ (.slice none 0 0) HB.out
    exact heap_setCell_same _ b 1 _ _ (.bool true) h1
  · exact ((Kp.refl [b] w).setCell (.inl (by simp)) _).setCell (.inl (by simp)) _


theorem dec_step {xs : List Int} {k u : Nat} (hk : k < xs.length) : decF k u (xs.drop k) =
    if 9 ≤ k ∨ (0 < k ∧ xs[k] = 0) then none
    else if xs[k] < 128 then (if 4611686018427387904 < u + xs[k].toNat * 128 ^ k then none else some (u + xs[k].toNat * 128 ^ k, xs.drop (k + 1)))
    else decF (k + 1) (u + (xs[k].toNat - 128) * 128 ^ k) (xs.drop (k + 1)) := by
  rw [List.drop_eq_getElem_cons hk, decF]

set_option maxHeartbeats 4000000 in
set_option maxRecDepth 100000 in
theorem num_any (b : Nat) (g : Option Nat) (s : Option (List Int)) (w : World) (hR : Rdr w b g s) (hb : (left s).length ≤ 140737488351232) :
    Calls Tryz.prog 87 #[.pointer (some ⟨b, 0, none⟩)] w (RdrPost b g (.int .i64 ((stNum s).1 : Int)) (stNum s).2 w) := by
  have HBAD := As.mk (bad_any b g s w hR)
  have HRR := As.mk hR
  obtain ⟨A, c, hb0, rfl, hr, hl, hm, hn, hne, hw⟩ := hR
  obtain ⟨xs, hxs⟩ : ∃ xs, xs = left s := ⟨_, rfl⟩
  rw [← hxs] at hb0 hr hl hw hb
  have c0 := blk_cell hb0 0 rfl
  have f0 := blk_free hb0 0
  have HB := As.mk hb0
  have HR := As.mk hr
  have HW := As.mk hw
  have HX := As.mk hxs
  clear hb0 hr hn hne hw hxs
  go_enter Tryz.func87, Tryz.ntmps87
  go_wp2
  go_loop [3, 13] (fun u i => ∃ k u0 : Nat, i = .int .i64 (k : Int) ∧ u = .int .u64 (u0 : Int) ∧ k ≤ 9 ∧ k ≤ xs.length ∧ As (u0 < 128 ^ k) ∧ As (decF 0 0 xs = decF k u0 (xs.drop k))) (fun _ i => xs.length - (intOf i).toNat)
  case atStart => exact ⟨0, 0, rfl, rfl, by omega, by omega, ⟨by decide⟩, ⟨rfl⟩⟩
  case round =>
    obtain ⟨k, u0, rfl, rfl, hk9, hk, HU, HD⟩ := hrel
    by_cases hlt : k < xs.length
    · obtain ⟨a, rfl, d0⟩ := HR.out.int k hlt
      have HS := As.mk (dec_step (u := u0) hlt)
      have hc := HW.out xs[k] (by simp)
      obtain ⟨y, hy⟩ : ∃ y, y = xs[k] := ⟨_, rfl⟩
      rw [← hy] at d0 hc
      have HY := As.mk hy
      clear hy
      by_cases h9 : 9 ≤ k
      · have HF : As (decF 0 0 xs = none) := ⟨by rw [HD.out, HS.out, if_pos (.inl h9)]⟩
        have g1 : decide (9 ≤ (k : Int)) = true := by simp; omega
        go_wp2_with (go_at_call 89; refine HBAD.out.mono ?_; rintro e w1 HP; obtain rfl := HP.1; have HPA := As.mk HP; clear HP)
        go_ret
        exact num_fail HX.out HF.out HPA.out
      · have g1 : decide (9 ≤ (k : Int)) = false := by simp; omega
        by_cases h0 : 0 < k ∧ y = 0
        · obtain ⟨h0k, rfl⟩ := h0
          have HF : As (decF 0 0 xs = none) := ⟨by rw [HD.out, HS.out, if_pos (.inr ⟨h0k, HY.out.symm⟩)]⟩
          have g2 : decide (0 < (k : Int)) = true := by simp; omega
          go_wp2_with (go_at_call 89; refine HBAD.out.mono ?_; rintro e w1 HP; obtain rfl := HP.1; have HPA := As.mk HP; clear HP)
          go_ret
          exact num_fail HX.out HF.out HPA.out
        · have HN0 : As (¬ (9 ≤ k ∨ (0 < k ∧ xs[k] = 0))) := ⟨by rw [← HY.out]; omega⟩
          have hcase : ¬ 0 < k ∨ (0 < k ∧ ¬ y = 0) := by omega
          clear h0
          obtain g2 | ⟨g2, g3⟩ := hcase
          all_goals
            obtain ⟨u1, hu1⟩ : ∃ u1 : Nat, u1 = u0 + y.toNat % 128 * 128 ^ k := ⟨_, rfl⟩
            have hbit := num_bits u0 k y hc.1 hc.2 (by omega) HU.out
            rw [← hu1] at hbit
            have HU1 := As.mk hu1
            clear hu1
            by_cases h128 : y < 128
            · have e1 : y.toNat % 128 = y.toNat := by omega
              have HE : As (u0 + xs[k].toNat * 128 ^ k = u1) := ⟨by rw [HU1.out, ← HY.out, e1]⟩
              have HL : As (xs[k] < 128) := ⟨by rw [← HY.out]; exact h128⟩
              clear e1
              by_cases hbig : 4611686018427387904 < u1
              · have HF : As (decF 0 0 xs = none) := ⟨by rw [HD.out, HS.out, if_neg HN0.out, if_pos HL.out, HE.out, if_pos hbig]⟩
                go_wp2_with (go_at_call 89; refine HBAD.out.mono ?_; rintro e w1 HP; obtain rfl := HP.1; have HPA := As.mk HP; clear HP)
                go_ret
                exact num_fail HX.out HF.out HPA.out
              · have HF : As (decF 0 0 xs = some (u1, xs.drop (k + 1))) := ⟨by rw [HD.out, HS.out, if_neg HN0.out, if_pos HL.out, HE.out, if_neg hbig]⟩
                go_wp2_with fail
                all_goals go_ret
                · exact num_ok HB.out HRR.out HX.out HF.out (a' := a) (by rw [List.drop_of_length_le (show xs.length ≤ k + 1 by omega)]; exact Rd.nil _ _) rfl (by omega) (by omega)
                · exact num_ok HB.out HRR.out HX.out HF.out (a' := a.add (k + 1)) (by rw [← iv_drop]; exact HR.out.drop _) (add_block _ _) (by omega) (by omega)
            · have HF : As (decF 0 0 xs = decF (k + 1) u1 (xs.drop (k + 1))) := by
                constructor
                have e1 : y.toNat % 128 = y.toNat - 128 := by omega
                rw [HD.out, HS.out, if_neg HN0.out, if_neg (by rw [← HY.out]; exact h128), HU1.out, ← HY.out, e1]
              have HB1 : As (u1 < 128 ^ (k + 1)) := by
                constructor
                rw [HU1.out, Nat.pow_succ]
                have h1 : y.toNat % 128 * 128 ^ k ≤ 127 * 128 ^ k := Nat.mul_le_mul_right _ (by omega)
                have h2 := HU.out
                omega
              go_wp2_with fail
              go_round
              case rel => exact ⟨k + 1, u1, by go_num, rfl, by omega, by omega, HB1, HF⟩
              case measure => simp [intOf]; omega
    · have HF : As (decF 0 0 xs = none) := ⟨by rw [HD.out, List.drop_of_length_le (by omega)]; rfl⟩
      go_wp2_with (go_at_call 89; refine HBAD.out.mono ?_; rintro e w1 HP; obtain rfl := HP.1; have HPA := As.mk HP; clear HP)
      go_ret
      exact num_fail HX.out HF.out HPA.out


theorem good_any (b : Nat) (g : Option Nat) (s : Option (List Int)) (w : World) (hR : Rdr w b g s) :
    Calls Tryz.prog 117 #[.pointer (some ⟨b, 0, none⟩)] w fun e w' => e = .returned (.bool s.isSome) ∧ w' = w := by
  obtain ⟨A, c, hb, rfl, _⟩ := hR
  have c1 := blk_cell hb 1 rfl
  clear hb
  cases s
  · go_enter Tryz.func117, Tryz.ntmps117
    go_wp2
    go_ret
    exact ⟨rfl, rfl⟩
  · go_enter Tryz.func117, Tryz.ntmps117
    go_wp2
    go_ret
    exact ⟨rfl, rfl⟩
theorem whole_any (b : Nat) (g : Option Nat) (s : Option (List Int)) (w : World) (hR : Rdr w b g s) :
    Calls Tryz.prog 90 #[.pointer (some ⟨b, 0, none⟩)] w fun e w' => e = .returned (.bool (whole s)) ∧ w' = w := by
  have HG := As.mk (good_any b g s w hR)
  obtain ⟨A, c, hb, rfl, _⟩ := hR
  have c0 := blk_cell hb 0 rfl
  clear hb
  rcases s with _ | ⟨_ | ⟨x, l⟩⟩
  · go_enter Tryz.func90, Tryz.ntmps90
    go_wp2_with (go_at_call 117; refine HG.out.mono ?_; rintro e w1 ⟨rfl, rfl⟩)
    go_ret
    exact ⟨rfl, rfl⟩
  · go_enter Tryz.func90, Tryz.ntmps90
    go_wp2_with (go_at_call 117; refine HG.out.mono ?_; rintro e w1 ⟨rfl, rfl⟩)
    go_ret
    exact ⟨rfl, rfl⟩
  · have hl : (((left (some (x :: l))).length : Int) == 0) = false := by simp [left]; omega
    go_enter Tryz.func90, Tryz.ntmps90
    go_wp2_with (go_at_call 117; refine HG.out.mono ?_; rintro e w1 ⟨rfl, rfl⟩)
    go_ret
    exact ⟨rfl, rfl⟩

end Go.Proofs.YtdiljpdohmeceaaGreat.reader

/- octet.Reader: Raw, Bytes, Nums. -/
namespace Go.Proofs.YtdiljpdohmeceaaGreat.reader
open Go.RowKit H O

set_option maxHeartbeats 4000000 in
theorem raw_any (b : Nat) (g : Option Nat) (s : Option (List Int)) (n : Int) (w : World) (hR : Rdr w b g s) (hb : (left s).length ≤ 140737488351232) :
    Calls Tryz.prog 114 #[.pointer (some ⟨b, 0, none⟩), .int .i64 n] w (RawPost b g (stRaw n s) w) := by
  have HBAD := As.mk (bad_any b g s w hR)
  have HRR := As.mk hR
  obtain ⟨A, c, hb0, rfl, hr, hl, hm, hn, hne, hw⟩ := hR
  obtain ⟨len, hlen⟩ : ∃ len, (left s).length = len := ⟨_, rfl⟩
  rw [hlen] at hb0 hl hb
  have c0 := blk_cell hb0 0 rfl
  have HB := As.mk hb0
  have HR := As.mk hr
  have HW := As.mk hw
  have HL := As.mk hlen
  have HN := As.mk hn
  have HE := As.mk hne
  clear hb0 hr hn hne hw hlen
  by_cases h0 : n < 0
  · have HS := As.mk (stRaw_bad (s := s) (.inl h0))
    go_enter Tryz.func114, Tryz.ntmps114
    go_wp2_with (go_at_call 89; refine HBAD.out.mono ?_; rintro e w1 HP; obtain rfl := HP.1; have HPA := As.mk HP; clear HP)
    go_ret
    rw [HS.out]
    exact ⟨_, rfl, Own.nil _ _ _ _, HPA.out.2⟩
  · by_cases h1 : (len : Int) < n
    · have HS := As.mk (stRaw_bad (s := s) (n := n) (.inr (by rw [HL.out]; exact h1)))
      go_enter Tryz.func114, Tryz.ntmps114
      go_wp2_with (go_at_call 89; refine HBAD.out.mono ?_; rintro e w1 HP; obtain rfl := HP.1; have HPA := As.mk HP; clear HP)
      go_ret
      rw [HS.out]
      exact ⟨_, rfl, Own.nil _ _ _ _, HPA.out.2⟩
    · obtain ⟨m, rfl⟩ := Int.eq_ofNat_of_zero_le (by omega : 0 ≤ n)
      have hml : m ≤ len := by omega
      clear h0 h1
      have HS := As.mk (stRaw_good (s := s) (m := m) (by rw [HL.out]; exact hml))
      cases A with
      | none =>
        have hc := HN.out rfl
        subst hc
        obtain rfl : len = 0 := by omega
        obtain rfl : m = 0 := by omega
        have HC := As.mk (clone.clone_any none 0 0 ((left s).take 0) w (by simp) (by simpa [iv] using Rd.nil w none) (by simp) (by omega))
        go_enter Tryz.func114, Tryz.ntmps114
        go_wp2_with (go_at_call 118; refine HC.out.mono ?_; rintro e w1 ⟨v, rfl, ho, hk⟩; have hb1 := hk.blk HB.out (by simp); have c01 := blk_cell hb1 0 rfl; have f01 := blk_free hb1 0; have HO := As.mk ho; have HK := As.mk hk; have HB1 := As.mk hb1; clear ho hk hb1)
        go_ret
        rw [HS.out]
        exact raw_nil HRR.out HL.out HB1.out HO.out HK.out
      | some a =>
        have HC := As.mk (clone.clone_any (some a) m c ((left s).take m) w (by rw [List.length_take, HL.out]; omega) (by rw [← iv_take]; exact HR.out.take _) (by simp) (by omega))
        go_enter Tryz.func114, Tryz.ntmps114
        go_wp2_with (go_at_call 118; refine HC.out.mono ?_; rintro e w1 ⟨v, rfl, ho, hk⟩; have hb1 := hk.blk HB.out (by simp); have c01 := blk_cell hb1 0 rfl; have f01 := blk_free hb1 0; have HO := As.mk ho; have HK := As.mk hk; have HB1 := As.mk hb1; clear ho hk hb1)
        all_goals go_ret
        all_goals rw [HS.out]
        · exact raw_ok HRR.out HL.out HB1.out HO.out HK.out (a' := a) (by rw [← iv_drop, List.drop_of_length_le (by rw [iv_len, HL.out]; omega)]; exact Rd.nil _ _) rfl (by omega) (by omega)
        · exact raw_ok HRR.out HL.out HB1.out HO.out HK.out (a' := a.add m) (by rw [← iv_drop]; exact HR.out.drop _) (add_block _ _) (by omega) (by omega)


/-- Bytes -/
theorem bytes_any (b : Nat) (g : Option Nat) (s : Option (List Int)) (w : World) (hR : Rdr w b g s) (hb : (left s).length ≤ 140737488351232) :
    Calls Tryz.prog 88 #[.pointer (some ⟨b, 0, none⟩)] w (RawPost b g (stBytes s) w) := by
  have HN := As.mk (num_any b g s w hR hb)
  have HL := As.mk (left_le hb)
  clear hR
  go_enter Tryz.func88, Tryz.ntmps88
  go_wp2_with (first
    | (go_at_call 87; refine HN.out.mono ?_; rintro e w1 HP; obtain rfl := HP.1; obtain ⟨_, g1, R1, G1, K1⟩ := HP; have HG1 := As.mk G1; have HK1 := As.mk K1; have HRW := As.mk (raw_any b g1 (stNum s).2 ((stNum s).1 : Int) w1 R1 HL.out); clear R1 G1 K1)
    | (go_at_call 114; refine HRW.out.mono ?_; rintro e w2 ⟨v, rfl, O2, g2, R2, G2, K2⟩; have HP2 := As.mk (And.intro O2 (And.intro R2 (And.intro G2 K2))); clear O2 R2 G2 K2))
  go_ret
  obtain ⟨O2, R2, G2, K2⟩ := HP2.out
  refine ⟨v, rfl, O2.lower HK1.out.size, g2, R2, ?_, HK1.out.trans K2 (fun x hx => .inl hx)⟩
  rcases G2 with rfl | rfl
  · exact HG1.out
  · exact .inr rfl

/-! Nums: a number into each place. -/
def put1 (w : World) (p : Option Addr) (v : Int) : World :=
  match p with
  | none => w
  | some a => w.setCell a (.int .i64 v)
def putAll (w : World) : List (Option Addr × Int) → World
  | [] => w
  | x :: r => putAll (put1 w x.1 x.2) r
theorem putAll_snoc (w : World) (l : List (Option Addr × Int)) (x : Option Addr × Int) : putAll w (l ++ [x]) = put1 (putAll w l) x.1 x.2 := by
  induction l generalizing w with
  | nil => rfl
  | cons y l ih => simp only [List.cons_append, putAll]; exact ih _
theorem put1_size (w : World) (p : Option Addr) (v : Int) : (put1 w p v).heap.size = w.heap.size := by cases p <;> simp [put1]
theorem putAll_size (w : World) (l : List (Option Addr × Int)) : (putAll w l).heap.size = w.heap.size := by
  induction l generalizing w with
  | nil => rfl
  | cons y l ih => rw [putAll, ih, put1_size]
/-- A place of an int. -/
def IsInt (w : World) (a : Addr) : Prop := (∃ x, w.cell? a = some (.int .i64 x)) ∧ w.frozen? a = false
theorem put1_isInt {w : World} {a : Addr} (h : IsInt w a) (p : Option Addr) (v : Int) : IsInt (put1 w p v) a := by
  cases p with
  | none => exact h
  | some q =>
    obtain ⟨⟨x, hx⟩, hf⟩ := h
    refine ⟨?_, by simpa [put1] using hf⟩
    by_cases e : q = a
    · subst e
      exact ⟨v, World.cell?_setCell_same _ _ _ hx⟩
    · exact ⟨x, by simp only [put1]; rw [World.cell?_setCell_other _ _ _ _ e]; exact hx⟩
theorem putAll_isInt {w : World} {a : Addr} (h : IsInt w a) (l : List (Option Addr × Int)) : IsInt (putAll w l) a := by
  induction l generalizing w with
  | nil => exact h
  | cons y l ih => exact ih (put1_isInt h _ _)
theorem put1_far (w : World) (p : Option Addr) (v : Int) (k : Nat) (h : ∀ a, p = some a → a.block ≠ k) : (put1 w p v).heap[k]? = w.heap[k]? := by
  cases p with
  | none => rfl
  | some a => exact heap_setCell_other _ _ _ _ (fun e => h a rfl e.symm)
theorem putAll_far (w : World) (l : List (Option Addr × Int)) (k : Nat) (h : ∀ x ∈ l, ∀ a, x.1 = some a → a.block ≠ k) : (putAll w l).heap[k]? = w.heap[k]? := by
  induction l generalizing w with
  | nil => rfl
  | cons y l ih => rw [putAll, ih _ (fun x hx => h x (by simp [hx])), put1_far _ _ _ _ (h y (by simp))]

theorem stNums_len (k : Nat) (s : Option (List Int)) : (stNums k s).1.length = k := by
  induction k generalizing s with
  | zero => rfl
  | succ k ih => simp only [stNums, List.length_cons, ih]
theorem stNums_snoc (k : Nat) (s : Option (List Int)) : stNums (k + 1) s = ((stNums k s).1 ++ [((stNum (stNums k s).2).1 : Int)], (stNum (stNums k s).2).2) := by
  induction k generalizing s with
  | zero => rfl
  | succ k ih =>
    have h1 : stNums (k + 1 + 1) s = (((stNum s).1 : Int) :: (stNums (k + 1) (stNum s).2).1, (stNums (k + 1) (stNum s).2).2) := rfl
    have h2 : stNums (k + 1) s = (((stNum s).1 : Int) :: (stNums k (stNum s).2).1, (stNums k (stNum s).2).2) := rfl
    rw [h1, ih, h2]
    rfl
theorem stNums_left {k m : Nat} {s : Option (List Int)} (h : (left s).length ≤ m) : (left (stNums k s).2).length ≤ m := by
  induction k with
  | zero => exact h
  | succ k ih => rw [stNums_snoc]; exact left_le ih

/-- The world behind Nums: all blocks but the Reader's own are as the stores leave them. -/
def NumsPost (b : Nat) (g : Option Nat) (ps : List (Option Addr)) (s : Option (List Int)) (w : World) (e : Ending) (w' : World) : Prop :=
  e = .returned (.tuple #[]) ∧ (∃ g', Rdr w' b g' (stNums ps.length s).2 ∧ (g' = g ∨ g' = none)) ∧ w'.os = w.os ∧ w'.tape = w.tape ∧ w'.output = w.output ∧ w.heap.size ≤ w'.heap.size ∧
    ∀ k, k < w.heap.size → k ≠ b → w'.heap[k]? = (putAll w (ps.zip (stNums ps.length s).1)).heap[k]?

theorem NumsPost.step {b : Nat} {g g1 : Option Nat} {ps : List (Option Addr)} {p : Option Addr} {s : Option (List Int)} {w wr w1 : World} (h : NumsPost b g ps s w (.returned (.tuple #[])) wr)
    (hR : Rdr w1 b g1 (stNum (stNums ps.length s).2).2) (hg : g1 = g ∨ g1 = none) (hk : Kp [b] wr w1) (hp : ∀ a, p = some a → a.block ≠ b ∧ g ≠ some a.block) :
    NumsPost b g (ps ++ [p]) s w (.returned (.tuple #[])) (put1 w1 p ((stNum (stNums ps.length s).2).1 : Int)) := by
  obtain ⟨_, _, h1, h2, h3, h4, h5⟩ := h
  have hkp : Kp (p.map Addr.block).toList w1 (put1 w1 p ((stNum (stNums ps.length s).2).1 : Int)) := by
    cases p with
    | none => exact Kp.refl _ _
    | some a => exact (Kp.refl _ _).setCell (.inl (by simp)) _
  have hz : (ps ++ [p]).zip (stNums (ps ++ [p]).length s).1 = ps.zip (stNums ps.length s).1 ++ [(p, ((stNum (stNums ps.length s).2).1 : Int))] := by
    rw [List.length_append, List.length_singleton, stNums_snoc, List.zip_append (by rw [stNums_len])]
    rfl
  refine ⟨rfl, ⟨g1, ?_, hg⟩, (hkp.os.trans hk.os).trans h1, (hkp.tape.trans hk.tape).trans h2, (hkp.output.trans hk.output).trans h3, by rw [put1_size]; have := hk.size; omega, ?_⟩
  · rw [List.length_append, List.length_singleton, stNums_snoc]
    refine hR.kp hkp ?_ ?_
    · intro hm
      cases p with
      | none => simp at hm
      | some a => exact (hp a rfl).1 (by have h9 : b = a.block := by simpa using hm
                                         exact h9.symm)
    · intro x hx hm
      cases p with
      | none => simp at hm
      | some a =>
        have hxa : x = a.block := by simpa using hm
        rcases hg with rfl | rfl
        · exact (hp a rfl).2 (by rw [hx, hxa])
        · cases hx
  · intro k hk1 hk2
    rw [hz, putAll_snoc]
    by_cases e : ∃ a, p = some a ∧ a.block = k
    · obtain ⟨a, rfl, rfl⟩ := e
      have e1 : w1.heap[a.block]? = (putAll w (ps.zip (stNums ps.length s).1)).heap[a.block]? := (hk.block _ (by omega) (by simpa using hk2)).trans (h5 _ hk1 hk2)
      simp only [put1, World.setCell, Array.getElem?_modify, e1]
    · rw [put1_far _ _ _ _ (fun a ha hb => e ⟨a, ha, hb⟩), put1_far _ _ _ _ (fun a ha hb => e ⟨a, ha, hb⟩)]
      exact (hk.block _ (by omega) (by simpa using hk2)).trans (h5 _ hk1 hk2)

theorem isInt_of_block {w w' : World} {a : Addr} (h : IsInt w a) (he : w'.heap[a.block]? = w.heap[a.block]?) : IsInt w' a := by
  obtain ⟨⟨x, hx⟩, hf⟩ := h
  exact ⟨⟨x, (World.cell?_of_block he).trans hx⟩, (World.frozen?_of_block he).trans hf⟩
theorem IsInt.lt {w : World} {a : Addr} (h : IsInt w a) : a.block < w.heap.size := by
  obtain ⟨⟨x, hx⟩, _⟩ := h
  exact World.block_lt_of_cell? w _ hx
theorem mem_zip_take {ps : List (Option Addr)} {k : Nat} {vs : List Int} {x : Option Addr × Int} (h : x ∈ (ps.take k).zip vs) : x.1 ∈ ps := List.mem_of_mem_take (List.of_mem_zip (a := x.1) (b := x.2) h).1
/-- What a round of Nums finds. -/
theorem NumsPost.place {b : Nat} {g : Option Nat} {ps : List (Option Addr)} {s : Option (List Int)} {w wr : World} {k : Nat} (h : NumsPost b g (ps.take k) s w (.returned (.tuple #[])) wr)
    (hp : ∀ p ∈ ps, ∀ q, p = some q → q.block ≠ b ∧ g ≠ some q.block ∧ IsInt w q) {q : Addr} (hq : some q ∈ ps) : IsInt wr q := by
  obtain ⟨_, _, _, _, _, _, h5⟩ := h
  obtain ⟨h1, _, h3⟩ := hp _ hq q rfl
  exact isInt_of_block (putAll_isInt h3 _) (h5 _ h3.lt h1)
theorem NumsPost.at {b : Nat} {g : Option Nat} {ps : List (Option Addr)} {s : Option (List Int)} {w wr : World} {k : Nat} (h : NumsPost b g (ps.take k) s w (.returned (.tuple #[])) wr)
    {a : Addr} (ha : a.block ≠ b) (hA : ∀ p ∈ ps, ∀ q, p = some q → q.block ≠ a.block) {v : Value} (hc : w.cell? a = some v) : wr.cell? a = some v := by
  obtain ⟨_, _, _, _, _, _, h5⟩ := h
  refine (World.cell?_of_block ((h5 _ (World.block_lt_of_cell? w _ hc) ha).trans (putAll_far _ _ _ ?_))).trans hc
  intro x hx q hq
  exact hA _ (mem_zip_take hx) q hq

set_option maxHeartbeats 4000000 in
theorem nums_any (b : Nat) (g : Option Nat) (s : Option (List Int)) (A : Option Addr) (n c : Nat) (ps : List (Option Addr)) (w : World) (hR : Rdr w b g s) (hb : (left s).length ≤ 140737488351232)
    (hn : ps.length = n) (hm : n ≤ 4611686018427387904) (hr : Rd w A (ps.map Value.pointer)) (hA : ∀ a, A = some a → a.block ≠ b ∧ ∀ p ∈ ps, ∀ q, p = some q → q.block ≠ a.block)
    (hp : ∀ p ∈ ps, ∀ q, p = some q → q.block ≠ b ∧ g ≠ some q.block ∧ IsInt w q) :
    Calls Tryz.prog 115 #[.pointer (some ⟨b, 0, none⟩), .slice A n c] w (NumsPost b g ps s w) := by
  subst hn
  have HR := As.mk hr
  have HA := As.mk hA
  have HP := As.mk hp
  have H0 : As (NumsPost b g (ps.take 0) s w (.returned (.tuple #[])) w) := ⟨rfl, ⟨g, hR, .inl rfl⟩, rfl, rfl, rfl, Nat.le_refl _, fun _ _ _ => rfl⟩
  clear hr hA hp hR
  go_enter Tryz.func115, Tryz.ntmps115
  go_wp2
  go_loopw [9] (fun i wr => ∃ k : Nat, i = .int .i64 (k : Int) ∧ k ≤ ps.length ∧ As (NumsPost b g (ps.take k) s w (.returned (.tuple #[])) wr)) (fun i _ => ps.length - (intOf i).toNat)
  case atStart => exact ⟨0, rfl, by omega, H0⟩
  case round =>
    obtain ⟨k, rfl, hk, HN⟩ := hrel
    by_cases hlt : k < ps.length
    · obtain ⟨a, rfl, d0⟩ := HR.out k (.pointer ps[k]) (by simp [hlt])
      obtain ⟨hab, haq⟩ := HA.out a rfl
      have d1 := NumsPost.at HN.out (a := a.add k) (by rw [add_block]; exact hab) (by rw [add_block]; exact haq) d0
      clear d0 hab haq
      obtain ⟨_, ⟨g1, R1, G1⟩, _⟩ := HN.out
      have hlk : (ps.take k).length = k := by rw [List.length_take]; omega
      have HC := As.mk (num_any b g1 _ wr R1 (stNums_left hb))
      have HG1 := As.mk G1
      have HLK := As.mk hlk
      clear R1 G1 hlk
      have hmem : ps[k] ∈ ps := List.getElem_mem hlt
      obtain ⟨p, hpe⟩ : ∃ p, p = ps[k] := ⟨_, rfl⟩
      rw [← hpe] at d1 hmem
      have HM := As.mk hmem
      have HPE := As.mk hpe
      clear hmem hpe
      have HQ : As (∀ a, p = some a → a.block ≠ b ∧ g ≠ some a.block) := ⟨fun a ha => ⟨(HP.out p HM.out a ha).1, (HP.out p HM.out a ha).2.1⟩⟩
      have HT : As (ps.take (k + 1) = ps.take k ++ [p]) := ⟨by rw [HPE.out]; exact take_succ' ps k hlt⟩
      have HLT := As.mk hlt
      cases p with
      | none =>
        go_wp2_with (go_at_call 87; refine HC.out.mono ?_; rintro e w1 HP1; obtain rfl := HP1.1; obtain ⟨_, g2, R2, G2, K2⟩ := HP1; have HNX := As.mk (NumsPost.step HN.out R2 (by rcases G2 with rfl | rfl; exact HG1.out; exact .inr rfl) K2 HQ.out); clear R2 G2 K2)
        go_roundw
        case rel => exact ⟨k + 1, by go_num, by omega, ⟨by rw [HT.out]; exact HNX.out⟩⟩
        case measure => simp [intOf]; omega
      | some q =>
        have HI := As.mk (NumsPost.place HN.out HP.out HM.out)
        go_wp2_with (go_at_call 87; refine HC.out.mono ?_; rintro e w1 HP1; obtain rfl := HP1.1; obtain ⟨_, g2, R2, G2, K2⟩ := HP1; have HNX := As.mk (NumsPost.step HN.out R2 (by rcases G2 with rfl | rfl; exact HG1.out; exact .inr rfl) K2 HQ.out); obtain ⟨⟨x1, hx1⟩, hf1⟩ := isInt_of_block HI.out (K2.block _ HI.out.lt (by simpa using (HQ.out q rfl).1)); clear R2 G2 K2)
        go_roundw
        case rel => exact ⟨k + 1, by go_num, by omega, ⟨by rw [HT.out]; have h9 := HNX.out; rw [HLK.out] at h9; exact h9⟩⟩
        case measure => simp [intOf]; omega
    · go_wp2
      go_end0
      have : ps.take k = ps := List.take_of_length_le (by omega)
      rw [this] at HN
      exact HN.out

end Go.Proofs.YtdiljpdohmeceaaGreat.reader

/- op.Decode. -/
namespace Go.Proofs.YtdiljpdohmeceaaGreat.opk
open Go.RowKit H O haystacklaw13

/-- An op's block: as long as nothing else is said. -/
theorem OpAt.free {w : World} {b : Nat} {k cl sq : Int} {key : ByteArray} {A : Option Addr} {n c : Nat} (h : OpAt w b k cl sq key A n c) (j : Nat) : w.frozen? ⟨b, j, none⟩ = false := blk_free h j
theorem OpAt.set {w : World} {b : Nat} {k cl sq : Int} {key : ByteArray} {A : Option Addr} {n c : Nat} (h : OpAt w b k cl sq key A n c) :
    (∀ v, OpAt (w.setCell ⟨b, 0, none⟩ (.int .i64 v)) b v cl sq key A n c) ∧ (∀ v, OpAt (w.setCell ⟨b, 1, none⟩ (.int .i64 v)) b k v sq key A n c) ∧ (∀ v, OpAt (w.setCell ⟨b, 2, none⟩ (.int .i64 v)) b k cl v key A n c) ∧
    (∀ s, OpAt (w.setCell ⟨b, 3, none⟩ (.string s)) b k cl sq s A n c) ∧ (∀ B m d, OpAt (w.setCell ⟨b, 4, none⟩ (.slice B m d)) b k cl sq key B m d) :=
  ⟨fun v => heap_setCell_same w b 0 _ _ (.int .i64 v) h, fun v => heap_setCell_same w b 1 _ _ (.int .i64 v) h, fun v => heap_setCell_same w b 2 _ _ (.int .i64 v) h, fun s => heap_setCell_same w b 3 _ _ (.string s) h, fun B m d => heap_setCell_same w b 4 _ _ (.slice B m d) h⟩
theorem conv_str {w : World} {A : Option Addr} {n c : Nat} {zs : List Int} (hz : zs.length = n) (hr : Rd w A (iv .u8 zs)) : (convert 24 9 (.slice A n c)).run Tryz.prog w = .ok (.string (strOfNums zs)) w := by
  by_cases hn : 0 < n
  · obtain ⟨a, rfl, d0⟩ := hr.int 0 (by omega)
    obtain ⟨b, o, s⟩ := a
    obtain rfl : s = none := by simpa [Addr.add] using World.cell?_spot d0
    refine run_convert_bytes_arg w 24 5 Tryz.underlying24 Tryz.underlying5 b o n c zs hz ?_ 9 Tryz.underlying9
    intro i hi
    obtain ⟨_, e, d⟩ := hr.int i (by omega)
    cases e
    rw [Go.WideShapes.add_plain] at d
    rw [d]
    simp [List.getD, show i < zs.length by omega]
  · obtain rfl : n = 0 := by omega
    obtain rfl : zs = [] := List.eq_nil_of_length_eq_zero hz
    rw [run_convert_bytes_string w 24 9 5 _ 0 c Tryz.underlying24 Tryz.underlying5 Tryz.underlying9]
    cases A <;> rfl
theorem kb_str {zs : List Int} (h : Wf zs) : kb (strOfNums zs) = zs := by
  rw [kb, strOfNums_data, List.map_map]
  conv => rhs; rw [← List.map_id zs]
  refine List.map_congr_left fun x hx => ?_
  have := h x hx
  simp only [Function.comp, UInt8.toNat_ofNat', id]
  omega
theorem str_size (zs : List Int) : (strOfNums zs).size = zs.length := strOfNums_size zs

/-- what bytes are as an op -/
def dOpR (xs : List Int) : Int × Int × Int × ByteArray × List Int × Int :=
  match stNum (some xs) with
  | (n0, s1) => match stNum s1 with
    | (n1, s2) => match stNum s2 with
      | (n2, s3) => match stBytes s3 with
        | (p, s4) => match stBytes s4 with
          | (t, s5) => if s5 = some [] ∧ opErr n0 n1 n2 p.length t.length = 0 ∧ opBytes n0 n1 n2 (strOfNums p) t = xs then (n0, n1, n2, strOfNums p, t, 0) else (0, 0, 0, ⟨#[]⟩, [], 3)
theorem dOpR_eq {xs : List Int} {n0 n1 n2 : Nat} {s1 s2 s3 s4 s5 : Option (List Int)} {p t : List Int} (h0 : stNum (some xs) = (n0, s1)) (h1 : stNum s1 = (n1, s2)) (h2 : stNum s2 = (n2, s3)) (h3 : stBytes s3 = (p, s4)) (h4 : stBytes s4 = (t, s5)) :
    dOpR xs = if s5 = some [] ∧ opErr n0 n1 n2 p.length t.length = 0 ∧ opBytes n0 n1 n2 (strOfNums p) t = xs then ((n0 : Int), (n1 : Int), (n2 : Int), strOfNums p, t, 0) else (0, 0, 0, ⟨#[]⟩, [], 3) := by
  simp only [dOpR, h0, h1, h2, h3, h4]

theorem isInt_op {w : World} {b : Nat} {k cl sq : Int} {key : ByteArray} {A : Option Addr} {n c : Nat} (h : OpAt w b k cl sq key A n c) : reader.IsInt w ⟨b, 0, none⟩ ∧ reader.IsInt w ⟨b, 1, none⟩ ∧ reader.IsInt w ⟨b, 2, none⟩ :=
  ⟨⟨⟨_, h.cells.1⟩, h.free 0⟩, ⟨⟨_, h.cells.2.1⟩, h.free 1⟩, ⟨⟨_, h.cells.2.2.1⟩, h.free 2⟩⟩
/-- Nums into an op's first three fields -/
theorem dec_nums {w : World} {b o : Nat} {g : Option Nat} {s s1 s2 s3 : Option (List Int)} {n0 n1 n2 : Nat} {k cl sq : Int} {key : ByteArray} {A : Option Addr} {n c : Nat} (hR : reader.Rdr w b g s) (hO : OpAt w o k cl sq key A n c) (hob : o ≠ b) (hog : g ≠ some o) (hb : (left s).length ≤ 140737488351232)
    (h0 : stNum s = (n0, s1)) (h1 : stNum s1 = (n1, s2)) (h2 : stNum s2 = (n2, s3)) :
    Calls Tryz.prog 115 #[.pointer (some ⟨b, 0, none⟩), .slice (some ⟨w.heap.size, 0, none⟩) 3 3] (w.alloc (.cells #[.pointer (some ⟨o, 0, none⟩), .pointer (some ⟨o, 1, none⟩), .pointer (some ⟨o, 2, none⟩)] 155))
      fun e w' => e = .returned (.tuple #[]) ∧ (∃ g', reader.Rdr w' b g' s3 ∧ (g' = g ∨ g' = none)) ∧ OpAt w' o n0 n1 n2 key A n c ∧ Kp [b, o] w w' := by
  obtain ⟨W, hW⟩ : ∃ W, W = w.alloc (.cells #[.pointer (some ⟨o, 0, none⟩), .pointer (some ⟨o, 1, none⟩), .pointer (some ⟨o, 2, none⟩)] 155) := ⟨_, rfl⟩
  have kW : Kp [] w W := by rw [hW]; exact (Kp.refl [] w).alloc _
  have hOW : OpAt W o k cl sq key A n c := hO.kp kW (by simp)
  have hlo : o < w.heap.size := lt_of_block hO
  have hlb := hR.lt
  have hr : Rd W (some ⟨w.heap.size, 0, none⟩) ([some ⟨o, 0, none⟩, some ⟨o, 1, none⟩, some ⟨o, 2, none⟩].map Value.pointer) := by rw [hW]; exact rd_new w _ _
  rw [← hW]
  obtain ⟨i0, i1, i2⟩ := isInt_op hOW
  refine (reader.nums_any b g s (some ⟨w.heap.size, 0, none⟩) 3 3 [some ⟨o, 0, none⟩, some ⟨o, 1, none⟩, some ⟨o, 2, none⟩] W (hR.kp kW (by simp) (by simp)) hb rfl (by decide) hr ?_ ?_).mono ?_
  · intro a ha
    cases ha
    refine ⟨by show w.heap.size ≠ b; omega, fun p hp q hq => ?_⟩
    simp only [List.mem_cons, List.not_mem_nil, or_false] at hp
    rcases hp with rfl | rfl | rfl <;> cases hq <;> (show o ≠ w.heap.size; omega)
  · intro p hp q hq
    simp only [List.mem_cons, List.not_mem_nil, or_false] at hp
    rcases hp with rfl | rfl | rfl <;> cases hq
    · exact ⟨hob, hog, i0⟩
    · exact ⟨hob, hog, i1⟩
    · exact ⟨hob, hog, i2⟩
  · rintro e w' ⟨rfl, ⟨g', hR', hg'⟩, hos, htp, hout, hsz, hbl⟩
    have e1 : (stNums 3 s).1 = [(n0 : Int), (n1 : Int), (n2 : Int)] := by simp only [stNums, h0, h1, h2]
    have e2 : (stNums 3 s).2 = s3 := by simp only [stNums, h0, h1, h2]
    have hlen : [some (⟨o, 0, none⟩ : Addr), some ⟨o, 1, none⟩, some ⟨o, 2, none⟩].length = 3 := rfl
    rw [hlen] at hR' hbl
    rw [e1] at hbl
    rw [e2] at hR'
    have hsW := kW.size
    have hO' : OpAt w' o n0 n1 n2 key A n c := by
      have h9 := hbl o (by omega) hob
      have h8 := (((hOW.set.1 (n0 : Int)).set.2.1 (n1 : Int)).set.2.2.1 (n2 : Int))
      exact h9.trans h8
    refine ⟨rfl, ⟨g', hR', hg'⟩, hO', ⟨hos.trans kW.os, htp.trans kW.tape, hout.trans kW.output, by omega, fun i hi hn => ?_⟩⟩
    simp only [List.mem_cons, List.not_mem_nil, or_false, not_or] at hn
    rw [hbl i (by omega) hn.1, reader.putAll_far]
    · exact kW.block i hi (by simp)
    · intro x hx a ha
      simp only [List.zip_cons_cons, List.zip_nil_right, List.mem_cons, List.not_mem_nil, or_false] at hx
      rcases hx with rfl | rfl | rfl <;> cases ha <;> exact fun h => hn.2 h.symm

/-- behind Decode -/
def ODec (xs : List Int) (w : World) (e : Ending) (w' : World) : Prop :=
  ∃ (k c q : Int) (key : ByteArray) (text : List Int) (er : Int) (A : Option Addr) (n cp : Nat), dOpR xs = (k, c, q, key, text, er) ∧ e = .returned (.tuple #[.agg #[.int .i64 k, .int .i64 c, .int .i64 q, .string key, .slice A n cp], .int .i64 er]) ∧
    text.length = n ∧ Rd w' A (iv .u8 text) ∧ n ≤ cp ∧ (A = none → cp = 0) ∧ Kp [] w w'
theorem own_cases {w : World} {lo : Nat} {v : Value} {p : List Int} {n : Nat} (o : Own 5 .u8 w lo v p) (hn : p.length = n) : ∃ A c, v = .slice A n c ∧ n ≤ c ∧ Rd w A (iv .u8 p) ∧ (A = none → c = 0) := by
  obtain ⟨A, c, rfl, h1, _, h3, h4⟩ := own_rd o.1
  rw [hn] at h1 ⊢
  exact ⟨A, c, rfl, h1, h3, h4⟩

theorem stBytes_left {s : Option (List Int)} {m : Nat} (h : (left s).length ≤ m) : (left (stBytes s).2).length ≤ m := by
  unfold stBytes
  have h1 := reader.left_le h
  obtain ⟨a, s1⟩ : ∃ a, (stNum s).2 = a := ⟨_, rfl⟩
  rw [s1] at h1 ⊢
  cases a with
  | none => simp [stRaw, left]
  | some l =>
    simp only [stRaw]
    split
    · simp [left]
    · simp only [left, Option.getD_some, List.length_drop] at h1 ⊢
      omega

/-- behind the first row: the key is stored -/
theorem B5_of {w w3 w4 : World} {b : Nat} {g4 : Option Nat} {k c q : Int} {p t : List Int} {s3 s4 s5 : Option (List Int)} (hb : w.heap.size + 2 ≤ b) (hk3 : Kp [] w w3) (hq3 : OpAt w3 w.heap.size 0 0 0 ⟨#[]⟩ none 0 0) (o4 : OpAt w4 (w.heap.size + 1) k c q ⟨#[]⟩ none 0 0)
    (R4 : reader.Rdr w4 b g4 s4) (hg4 : ∀ x, g4 = some x → w.heap.size + 2 ≤ x) (K4 : Kp [b] w3 w4) (hl3 : (left s3).length ≤ 140737488351232) (h3 : stBytes s3 = (p, s4)) (h4 : stBytes s4 = (t, s5)) :
    Kp [] w (w4.setCell ⟨w.heap.size + 1, 3, none⟩ (.string (strOfNums p))) ∧ OpAt (w4.setCell ⟨w.heap.size + 1, 3, none⟩ (.string (strOfNums p))) w.heap.size 0 0 0 ⟨#[]⟩ none 0 0 ∧
    OpAt (w4.setCell ⟨w.heap.size + 1, 3, none⟩ (.string (strOfNums p))) (w.heap.size + 1) k c q (strOfNums p) none 0 0 ∧
    Calls Tryz.prog 88 #[.pointer (some ⟨b, 0, none⟩)] (w4.setCell ⟨w.heap.size + 1, 3, none⟩ (.string (strOfNums p))) (reader.RawPost b g4 (t, s5) (w4.setCell ⟨w.heap.size + 1, 3, none⟩ (.string (strOfNums p)))) := by
  have ks : Kp [w.heap.size + 1] w4 (w4.setCell ⟨w.heap.size + 1, 3, none⟩ (.string (strOfNums p))) := (Kp.refl _ _).setCell (.inl (by simp)) _
  have hs3 := hk3.size
  refine ⟨(hk3.trans K4 (by intro x hx; simp at hx; omega)).trans ks (by intro x hx; simp at hx; omega), (hq3.kp K4 (by simp; omega)).kp ks (by simp), o4.set.2.2.2.1 _, ?_⟩
  have hR5 := R4.kp ks (by simp; omega) (fun x hx => by have := hg4 x hx; simp; omega)
  have hl4 : (left s4).length ≤ 140737488351232 := by
    have q1 := stBytes_left (s := s3) hl3
    rwa [h3] at q1
  have h := reader.bytes_any b g4 s4 _ hR5 hl4
  rwa [h4] at h
theorem B6_of {w w5 w6 : World} {b : Nat} {g6 : Option Nat} {k c q : Int} {key : ByteArray} {t : List Int} {nt c6 : Nat} {A6 : Option Addr} {s5 : Option (List Int)} (hb : w.heap.size + 2 ≤ b) (hk5 : Kp [] w w5) (hq5 : OpAt w5 w.heap.size 0 0 0 ⟨#[]⟩ none 0 0) (o5 : OpAt w5 (w.heap.size + 1) k c q key none 0 0)
    (hg6 : ∀ x, g6 = some x → w.heap.size + 2 ≤ x) (O6 : Own 5 .u8 w6 w5.heap.size (.slice A6 nt c6) t) (R6 : reader.Rdr w6 b g6 s5) (K6 : Kp [b] w5 w6) (hnt : t.length = nt) :
    OpAt w6 (w.heap.size + 1) k c q key none 0 0 ∧ Kp [] w (w6.setCell ⟨w.heap.size + 1, 4, none⟩ (.slice A6 nt c6)) ∧ OpAt (w6.setCell ⟨w.heap.size + 1, 4, none⟩ (.slice A6 nt c6)) w.heap.size 0 0 0 ⟨#[]⟩ none 0 0 ∧
    (Calls Tryz.prog 90 #[.pointer (some ⟨b, 0, none⟩)] (w6.setCell ⟨w.heap.size + 1, 4, none⟩ (.slice A6 nt c6)) fun e w' => e = .returned (.bool (reader.whole s5)) ∧ w' = w6.setCell ⟨w.heap.size + 1, 4, none⟩ (.slice A6 nt c6)) ∧
    OpAt (w6.setCell ⟨w.heap.size + 1, 4, none⟩ (.slice A6 nt c6)) (w.heap.size + 1) k c q key A6 nt c6 ∧ Rd (w6.setCell ⟨w.heap.size + 1, 4, none⟩ (.slice A6 nt c6)) A6 (iv .u8 t) ∧ nt ≤ c6 ∧ (A6 = none → c6 = 0) ∧ (∀ a, A6 = some a → w.heap.size + 2 ≤ a.block) := by
  have ks : Kp [w.heap.size + 1] w6 (w6.setCell ⟨w.heap.size + 1, 4, none⟩ (.slice A6 nt c6)) := (Kp.refl _ _).setCell (.inl (by simp)) _
  have hs5 := hk5.size
  have hlt5 := lt_of_block o5
  have o6 := o5.kp K6 (by simp; omega)
  obtain ⟨A', c', e, h1, _, h3, h4⟩ := own_rd O6.1
  cases e
  rw [hnt] at h1
  refine ⟨o6, (hk5.trans K6 (by intro x hx; simp at hx; omega)).trans ks (by intro x hx; simp at hx; omega), (hq5.kp K6 (by simp; omega)).kp ks (by simp), reader.whole_any b g6 s5 _ (R6.kp ks (by simp; omega) (fun x hx => by have := hg6 x hx; simp; omega)), o6.set.2.2.2.2 _ _ _, ?_, h1, h4, fun a ha => by have h9 := O6.2 a.block (by rw [ha]; rfl); omega⟩
  refine ks.rd h3 ?_
  intro a ha hm
  have h9 := O6.2 a.block (by rw [ha]; rfl)
  simp at hm
  omega
theorem stBytes_len {s : Option (List Int)} {m : Nat} (h : (left s).length ≤ m) : (stBytes s).1.length ≤ m := by
  unfold stBytes
  have h1 := reader.left_le h
  obtain ⟨a, s1⟩ : ∃ a, (stNum s).2 = a := ⟨_, rfl⟩
  rw [s1] at h1 ⊢
  cases a with
  | none => simp [stRaw]
  | some l =>
    simp only [stRaw]
    split
    · simp
    · simp only [left, Option.getD_some] at h1
      simp only [List.length_take]
      omega
theorem stNum_wf {s : Option (List Int)} (h : Wf (left s)) : Wf (left (stNum s).2) := by
  cases s with
  | none => exact Wf.nil
  | some l =>
    cases hd : dec l with
    | none => simp only [stNum, hd]; exact Wf.nil
    | some x =>
      obtain ⟨v, r⟩ := x
      obtain ⟨q, e, _⟩ := dec_suffix hd
      simp only [stNum, hd, left, Option.getD_some] at h ⊢
      intro y hy
      exact h y (by rw [e]; simp [hy])
theorem stBytes_wf {s : Option (List Int)} (h : Wf (left s)) : Wf (stBytes s).1 ∧ Wf (left (stBytes s).2) := by
  unfold stBytes
  have h1 := stNum_wf h
  obtain ⟨a, s1⟩ : ∃ a, (stNum s).2 = a := ⟨_, rfl⟩
  rw [s1] at h1 ⊢
  cases a with
  | none => exact ⟨Wf.nil, Wf.nil⟩
  | some l =>
    simp only [stRaw]
    split
    · exact ⟨Wf.nil, Wf.nil⟩
    · exact ⟨Wf.take h1 _, Wf.drop h1 _⟩
theorem ob_wf {k c q : Int} {key : ByteArray} {t : List Int} (ht : Wf t) : Wf (opBytes k c q key t) := by
  rw [opBytes_eq]
  exact wf_app (num_u8 _) (wf_app (num_u8 _) (wf_app (num_u8 _) (wf_app (row_u8 _ (kb_wf _)) (wf_app (row_u8 _ ht) Wf.nil))))
theorem res_op {fn : Func} {tmps : Array Value} {w : World} {R : Nat} {k c q : Int} {key : ByteArray} {A : Option Addr} {n cp : Nat} (hf : fn.results = #[.cell 2 46, .tmp 3]) (h2 : tmps.getD 2 undef = .pointer (some ⟨R, 0, none⟩)) (h : OpAt w R k c q key A n cp) :
    (results fn tmps).run Tryz.prog w = .ok (.tuple #[.agg #[.int .i64 k, .int .i64 c, .int .i64 q, .string key, .slice A n cp], tmps.getD 3 undef]) w := by
  have hl := run_loadVar_row (P := Tryz.prog) w R 46 46 _ (0, 0) _ h Tryz.underlying46 rfl (by kernel_rfl)
  rw [results_cell_tmp hf, h2]
  simp [asAddr, hl, Result.andThen]
theorem zero_op {w w7 : World} (hk : Kp [] w w7) (h : OpAt w7 w.heap.size 0 0 0 ⟨#[]⟩ none 0 0) (k c q : Int) (key : ByteArray) (A : Option Addr) (n cp : Nat) :
    OpAt (((((w7.setCell ⟨w.heap.size, 0, none⟩ (.int .i64 k)).setCell ⟨w.heap.size, 1, none⟩ (.int .i64 c)).setCell ⟨w.heap.size, 2, none⟩ (.int .i64 q)).setCell ⟨w.heap.size, 3, none⟩ (.string key)).setCell ⟨w.heap.size, 4, none⟩ (.slice A n cp)) w.heap.size k c q key A n cp ∧
    Kp [] w (((((w7.setCell ⟨w.heap.size, 0, none⟩ (.int .i64 k)).setCell ⟨w.heap.size, 1, none⟩ (.int .i64 c)).setCell ⟨w.heap.size, 2, none⟩ (.int .i64 q)).setCell ⟨w.heap.size, 3, none⟩ (.string key)).setCell ⟨w.heap.size, 4, none⟩ (.slice A n cp)) ∧
    Kp [w.heap.size] w7 (((((w7.setCell ⟨w.heap.size, 0, none⟩ (.int .i64 k)).setCell ⟨w.heap.size, 1, none⟩ (.int .i64 c)).setCell ⟨w.heap.size, 2, none⟩ (.int .i64 q)).setCell ⟨w.heap.size, 3, none⟩ (.string key)).setCell ⟨w.heap.size, 4, none⟩ (.slice A n cp)) := by
  have e := ((((h.set.1 k).set.2.1 c).set.2.2.1 q).set.2.2.2.1 key).set.2.2.2.2 A n cp
  have kk : Kp [w.heap.size] w7 (((((w7.setCell ⟨w.heap.size, 0, none⟩ (.int .i64 k)).setCell ⟨w.heap.size, 1, none⟩ (.int .i64 c)).setCell ⟨w.heap.size, 2, none⟩ (.int .i64 q)).setCell ⟨w.heap.size, 3, none⟩ (.string key)).setCell ⟨w.heap.size, 4, none⟩ (.slice A n cp)) :=
    (((((Kp.refl _ w7).setCell (.inl (by simp)) _).setCell (.inl (by simp)) _).setCell (.inl (by simp)) _).setCell (.inl (by simp)) _).setCell (.inl (by simp)) _
  exact ⟨e, hk.trans kk (by simp), kk⟩
theorem odec_none {xs : List Int} {w w' : World} (h : dOpR xs = (0, 0, 0, ⟨#[]⟩, [], 3)) (k : Kp [] w w') : ODec xs w (.returned (.tuple #[.agg #[.int .i64 0, .int .i64 0, .int .i64 0, .string ⟨#[]⟩, .slice none 0 0], .int .i64 3])) w' :=
  ⟨0, 0, 0, ⟨#[]⟩, [], 3, none, 0, 0, h, rfl, rfl, Rd.nil _ _, Nat.le_refl _, fun _ => rfl, k⟩

end Go.Proofs.YtdiljpdohmeceaaGreat.opk

/- The document's Num, Nums, Bytes. -/
namespace Go.Proofs.YtdiljpdohmeceaaGreat.ref
open Go.RowKit H O

/-- A row so far. -/
def Sofar (v : Int) (w : World) (b : Value) (u : Nat) (wr : World) : Prop := ∃ pre, pre ++ enc u = num v ∧ Own 5 .u8 wr w.heap.size b pre ∧ Kp [] w wr

theorem own_app {w1 wr : World} {b v1 : Value} {pre : List Int} {y : Int} {m lo n : Nat} (ho : Own 5 .u8 wr lo b pre) (hm : pre.length = m) (hlo : lo ≤ n)
    (o1 : w1.ownsRow 0 5 1 v1 (m + 1) (iv .u8 pre ++ [.int .u8 y])) (a1 : At n b.ownBlock v1.ownBlock) : Own 5 .u8 w1 lo v1 (pre ++ [y]) := by
  subst hm
  exact ⟨by simpa [iv] using o1, a1.ge hlo ho.2⟩
theorem kp_app {w wr wa w1 : World} {b : Value} {S : List Nat} (hk : Kp S w wr) (ka : Kp [] wr wa) (hb : ∀ g, b.ownBlock = some g → w.heap.size ≤ g) (k1 : Kp b.ownBlock.toList wa w1) : Kp S w w1 :=
  (hk.trans ka (by simp)).row k1 (fun x hx => .inr (hb x hx))

set_option maxHeartbeats 4000000 in
set_option maxRecDepth 100000 in
theorem num_any (v : Int) (w : World) : Calls Tryz.prog 80 #[.int .i64 v] w (RetOwn 5 .u8 w (num v)) := by
  have hcase : 4611686018427387904 < v ∨ (¬ 4611686018427387904 < v ∧ ¬ 0 < v) ∨ (¬ 4611686018427387904 < v ∧ 0 < v) := by omega
  obtain ⟨u, hu⟩ : ∃ u, u = cl v := ⟨_, rfl⟩
  have hB := cl_le v
  rw [← hu] at hB
  have H0 : As (Sofar v w (.slice none 0 0) u w) := ⟨[], by rw [hu]; rfl, Own.nil _ _ _ _, Kp.refl _ _⟩
  have HB := As.mk hB
  have HU := As.mk hu
  clear hu hB
  rcases hcase with h1 | ⟨h1, h2⟩ | ⟨h1, h2⟩
  all_goals
    go_enter Tryz.func80, Tryz.ntmps80
    go_wp2
    go_loopw [3, 4] (fun s b wr => ∃ u2 : Nat, s = .int .u64 (u2 : Int) ∧ As (u2 ≤ 4611686018427387904) ∧ As (Sofar v w b u2 wr)) (fun s _ _ => (intOf s).toNat)
    case atStart => exact ⟨u, by congr 1; rw [HU.out]; unfold cl; split <;> (try split) <;> omega, HB, H0⟩
    case round =>
      obtain ⟨u2, rfl, HU2, ⟨pre, hpre, ho, hk⟩⟩ := hrel
      obtain ⟨m, hm⟩ : ∃ m, pre.length = m := ⟨_, rfl⟩
      have HO := As.mk ho
      have HO1 : As (wr.ownsRow 0 5 1 u4 m (iv .u8 pre)) := ⟨by rw [← hm]; exact ho.1⟩
      have HK := As.mk hk
      have HP := As.mk hpre
      have HM := As.mk hm
      clear ho hk hpre hm
      have HBD : As (m + 1 ≤ 140737488355328) := by
        constructor
        have h2 := num_len v
        have h3 := enc_pos u2
        have h4 := HM.out
        rw [← HP.out] at h2
        simp only [List.length_append] at h2
        omega
      by_cases hge : 128 ≤ u2
      · have hor := or128' u2 HU2.out
        go_wp2_with (at_builtin; refine clone.app8_one rfl (.tmp 13) (.tmp 18) rfl u4 m (iv .u8 pre) rfl HO1.out ((u2 : Int) % 128 + 128) rfl HBD.out ?_; intro v1 w1 o1 k1 a1; have O1 := As.mk (own_app HO.out HM.out (Nat.le_succ_of_le HK.out.size) o1 a1); have K1 := As.mk (kp_app HK.out ((Kp.refl [] wr).alloc _) HO.out.2 k1); clear o1 k1 a1)
        go_roundw
        case rel => exact ⟨u2 / 128, by go_num, ⟨by have := HU2.out; omega⟩, ⟨pre ++ [(u2 : Int) % 128 + 128], by rw [← HP.out, enc_hi (u := u2) (by omega), List.append_assoc, List.singleton_append], O1.out, K1.out⟩⟩
        case measure => simp [intOf]; omega
      · go_wp2_with (at_builtin; refine clone.app8_one rfl (.tmp 22) (.tmp 25) rfl u4 m (iv .u8 pre) rfl HO1.out (u2 : Int) rfl HBD.out ?_; intro v1 w1 o1 k1 a1; have O1 := As.mk (own_app HO.out HM.out (Nat.le_succ_of_le HK.out.size) o1 a1); have K1 := As.mk (kp_app HK.out ((Kp.refl [] wr).alloc _) HO.out.2 k1); clear o1 k1 a1)
        go_ret
        exact ⟨v1, rfl, by have h9 := O1.out; rw [← HP.out, enc_lo (u := u2) (by omega)]; exact h9, K1.out⟩

end Go.Proofs.YtdiljpdohmeceaaGreat.ref

/- The document's Nums and Bytes. -/
namespace Go.Proofs.YtdiljpdohmeceaaGreat.ref
open Go.RowKit H O

theorem own_apps {w1 wr : World} {b v1 : Value} {pre ys : List Int} {m lo n k : Nat} (ho : Own 5 .u8 wr lo b pre) (hm : pre.length = m) (hk : ys.length = k) (hlo : lo ≤ n)
    (o1 : w1.ownsRow 0 5 1 v1 (m + k) (iv .u8 pre ++ iv .u8 ys)) (a1 : At n b.ownBlock v1.ownBlock) : Own 5 .u8 w1 lo v1 (pre ++ ys) := by
  subst hm hk
  exact ⟨by simpa [iv] using o1, a1.ge hlo ho.2⟩

set_option maxHeartbeats 4000000 in
theorem nums_any (A : Option Addr) (n c : Nat) (vs : List Int) (w : World) (hn : vs.length = n) (h0 : Rd w A (iv .i64 vs)) (hb : n ≤ 7036874417766) :
    Calls Tryz.prog 41 #[.slice A n c] w (RetOwn 5 .u8 w (nums vs)) := by
  subst hn
  have HR := As.mk h0
  clear h0
  go_enter Tryz.func41, Tryz.ntmps41
  go_wp2
  go_loopw [3, 4] (fun b i wr => ∃ k : Nat, i = .int .i64 (k : Int) ∧ k ≤ vs.length ∧ As (Own 5 .u8 wr w.heap.size b (nums (vs.take k)) ∧ Kp [] w wr)) (fun _ i _ => vs.length - (intOf i).toNat)
  case atStart => exact ⟨0, rfl, by omega, ⟨Own.nil _ _ _ _, Kp.refl _ _⟩⟩
  case round =>
    obtain ⟨k, rfl, hk, HH⟩ := hrel
    have HO := As.mk HH.out.1
    have HK := As.mk HH.out.2
    clear HH
    by_cases hlt : k < vs.length
    · obtain ⟨a, rfl, d0⟩ := (show Rd wr A (iv .i64 vs) from HK.out.rd_new HR.out (by simp)).int k hlt
      obtain ⟨x, hx⟩ : ∃ x, x = vs[k] := ⟨_, rfl⟩
      rw [← hx] at d0
      obtain ⟨m, hm⟩ : ∃ m, (nums (vs.take k)).length = m := ⟨_, rfl⟩
      have HX := As.mk hx
      have HM := As.mk hm
      have HBD : As (m + (num x).length ≤ 140737488355328) := by
        constructor
        have h1 := nums_len (vs.take k)
        have h2 := num_len x
        rw [List.length_take] at h1
        omega
      clear hx hm
      go_wp2_with (first
        | (go_at_call 80; refine (num_any x _).mono ?_; rintro e w1 ⟨v, rfl, ho1, hk1⟩; obtain ⟨A1, c1, rfl, hl1, hm1, hr1, hn1⟩ := own_rd ho1.1; have HO1 := As.mk (HO.out.kp hk1 (by simp)); have HOM : As (w1.ownsRow 0 5 1 u3 m (iv .u8 (nums (vs.take k)))) := ⟨by rw [← HM.out]; exact HO1.out.1⟩; have HK1 := As.mk hk1; have HR1 := As.mk hr1; have HN1 := As.mk hn1; clear ho1 hk1 hl1 hm1 hr1 hn1)
        | (at_builtin; refine clone.app8 rfl (.tmp 11) (.tmp 16) rfl u3 m (iv .u8 (nums (vs.take k))) rfl HOM.out A1 (num x).length c1 (iv .u8 (num x)) rfl (iv_len _ _) HR1.out HN1.out (iv_one _ _) HBD.out ?_; intro v2 w2 o2 k2 a2; have HO2 := As.mk (own_apps HO1.out HM.out rfl (Nat.le_trans HK.out.size HK1.out.size) o2 a2); have HK2 := As.mk ((HK.out.trans HK1.out (by simp)).row k2 (fun y hy => .inr (HO1.out.2 y hy))); clear o2 k2 a2))
      go_roundw
      case rel => exact ⟨k + 1, by go_num, by omega, ⟨by rw [nums_step vs k hlt, ← HX.out]; exact HO2.out, HK2.out⟩⟩
      case measure => simp [intOf]; omega
    · go_wp2
      go_ret
      have e : vs.take k = vs := List.take_of_length_le (by omega)
      rw [e] at HO
      exact ⟨_, rfl, HO.out, HK.out⟩

set_option maxHeartbeats 4000000 in
theorem bytes_any (A : Option Addr) (n c : Nat) (xs : List Int) (w : World) (hn : xs.length = n) (h0 : Rd w A (iv .u8 xs)) (hnil : A = none → c = 0) (hb : n ≤ 140737488351232) :
    Calls Tryz.prog 43 #[.slice A n c] w (RetOwn 5 .u8 w (row xs)) := by
  have HR := As.mk h0
  have HN := As.mk hnil
  have HL := As.mk hn
  clear h0 hnil hn
  obtain ⟨m, hm⟩ : ∃ m, (num (n : Int)).length = m := ⟨_, rfl⟩
  have HM := As.mk hm
  have hm9 : m ≤ 9 := by rw [← hm]; exact num_len _
  clear hm
  go_enter Tryz.func43, Tryz.ntmps43
  go_wp2_with (first
    | (go_at_call 80; refine (num_any _ _).mono ?_; rintro e w1 ⟨v, rfl, ho1, hk1⟩; have HO1 := As.mk ho1; have HOM : As (w1.ownsRow 0 5 1 v m (iv .u8 (num n))) := ⟨by rw [← HM.out]; exact ho1.1⟩; have HK1 := As.mk hk1; clear ho1 hk1)
    | (at_builtin; refine clone.app8 rfl (.tmp 5) (.tmp 6) rfl v m (iv .u8 (num n)) rfl HOM.out A n c (iv .u8 xs) rfl (by rw [iv_len, HL.out]) (HK1.out.rd_new HR.out (by simp)) HN.out (iv_one _ _) (by omega) ?_; intro v2 w2 o2 k2 a2; have HO2 := As.mk (own_apps HO1.out HM.out HL.out HK1.out.size o2 a2); have HK2 := As.mk (HK1.out.row k2 (fun y hy => .inr (HO1.out.2 y hy))); clear o2 k2 a2))
  go_ret
  exact ⟨_, rfl, by rw [row, HL.out]; exact HO2.out, HK2.out⟩

end Go.Proofs.YtdiljpdohmeceaaGreat.ref

/- Rows whose bytes are cut short: what a Reader takes of them. And: what a mask leaves, an append of a number. -/
namespace Go.Proofs.YtdiljpdohmeceaaGreat.O
open Go.RowKit H

theorem decF_short : ∀ (v i u m : Nat) (r : List Int), m < (enc v).length → decF i u ((enc v ++ r).take m) = none := by
  intro v
  induction v using Nat.strongRecOn with
  | _ v ih =>
    intro i u m r hm
    cases m with
    | zero => rfl
    | succ m =>
      by_cases h : v < 128
      · rw [enc_lo h] at hm
        simp at hm
      · rw [enc_hi h] at hm ⊢
        rw [List.cons_append, List.take_succ_cons]
        simp only [decF]
        split
        · rfl
        · rw [if_neg (by omega)]
          exact ih (v / 128) (by omega) _ _ m r (by simpa using hm)
theorem dec_short (n : Int) (m : Nat) (r : List Int) (h : m < (num n).length) : dec ((num n ++ r).take m) = none := decF_short _ _ _ _ _ h
theorem stBytes_none : stBytes none = ([], none) := rfl
theorem stBytes_cut (x r : List Int) (m : Nat) (hx : x.length ≤ 4611686018427387904) :
    stBytes (some ((row x ++ r).take m)) = if (row x).length ≤ m then (x, some (r.take (m - (row x).length))) else ([], none) := by
  by_cases h : (row x).length ≤ m
  · rw [if_pos h, List.take_append, List.take_of_length_le h]
    exact stBytes_row x _ hx
  · rw [if_neg h]
    unfold row at h ⊢
    rw [List.append_assoc]
    by_cases h2 : m < (num x.length).length
    · simp only [stBytes, stNum, dec_short _ _ _ h2]
      rfl
    · have h3 : (num x.length ++ (x ++ r)).take m = num x.length ++ (x ++ r).take (m - (num x.length).length) := by
        rw [List.take_append, List.take_of_length_le (by omega)]
      rw [List.length_append] at h
      have h4 : ((x ++ r).take (m - (num x.length).length)).length < x.length := by rw [List.length_take]; omega
      simp only [stBytes]
      rw [h3, stNum_num]
      simp only [stRaw]
      have h5 := cl_of (n := (x.length : Int)) (by omega) (by omega)
      rw [if_pos (by omega)]

/-- What is left of the rows behind the k-th, of m bytes in all. -/
def cutSt (l : List (List Int)) (m k : Nat) : Option (List Int) :=
  if (rows (l.take k)).length ≤ m then some ((rows (l.drop k)).take (m - (rows (l.take k)).length)) else none
theorem cutSt_zero (l : List (List Int)) (m : Nat) : cutSt l m 0 = some ((rows l).take m) := by simp [cutSt, rows]
theorem cutSt_step (l : List (List Int)) (m k : Nat) (h : k < l.length) (hx : l[k].length ≤ 4611686018427387904) :
    stBytes (cutSt l m k) = if (rows (l.take (k + 1))).length ≤ m then (l[k], cutSt l m (k + 1)) else ([], cutSt l m (k + 1)) := by
  have e := congrArg List.length (rows_step l k h)
  rw [List.length_append] at e
  unfold cutSt
  by_cases h1 : (rows (l.take k)).length ≤ m
  · rw [if_pos h1, List.drop_eq_getElem_cons h, rows_cons, stBytes_cut _ _ _ hx]
    by_cases h2 : (rows (l.take (k + 1))).length ≤ m
    · rw [if_pos h2, if_pos h2, if_pos (by omega), e]
      congr 3
      omega
    · rw [if_neg h2, if_neg h2, if_neg (by omega)]
  · rw [if_neg h1, if_neg (by omega), if_neg (by omega)]
    rfl
theorem cutSt_end (l : List (List Int)) (m : Nat) (h : m < (rows l).length) : cutSt l m l.length = none := by
  unfold cutSt
  rw [List.take_length, if_neg (by omega)]
theorem cutSt_left (l : List (List Int)) (m k : Nat) : (left (cutSt l m k)).length ≤ m := by
  unfold cutSt
  split
  · simp only [left, Option.getD_some, List.length_take]; omega
  · simp [left]
/-- a mask's bits are below it -/
theorem mask30 (a : Int) : ∃ q : Nat, bits .and .i64 a 1073741823 = (q : Int) ∧ q < 1073741824 := by
  have h1 : (BitVec.ofInt 64 (1073741823 : Int)).toNat = 1073741823 := by decide
  have h : (BitVec.ofInt 64 a &&& BitVec.ofInt 64 1073741823).toNat ≤ 1073741823 := by
    rw [BitVec.toNat_and, h1]
    exact Nat.and_le_right
  refine ⟨(BitVec.ofInt 64 a &&& BitVec.ofInt 64 1073741823).toNat, ?_, by omega⟩
  show IntKind.i64.wrap (((BitVec.ofInt 64 a &&& BitVec.ofInt 64 1073741823).toNat : Nat) : Int) = _
  rw [IntKind.wrap_i64]
  omega

theorem info_i64 : (Tryz.prog.info? 3).map (fun i => (i.zero, i.size, i.bytes)) = some (some (.int .i64 0), 1, 8) := by kernel_rfl
/-- append of one number onto a row of the call's own -/
theorem app64_one {w : World} {ops : Array Oper} {rest : List Oper} {o : Oper} {a : Act} {Q : Exit → Act → World → Prop} (hgd : o.guard = none) (s x : Operand)
    (ho : o.op = .call { callee := .builtin .append, args := #[s, x], argTypes := #[53, 53] })
    (v : Value) (n : Nat) (xs : List Value) (hs : a.eval s = v) (hown : w.ownsRow 0 3 1 v n xs) (y : Int)
    (hx : a.eval x = .slice (some ⟨w.heap.size, 0, none⟩) 1 1) (hm : n + 1 ≤ 17592186044416)
    (h : ∀ v' w', w'.ownsRow 0 3 1 v' (n + 1) (xs ++ [.int .i64 y]) → Kp v.ownBlock.toList (w.alloc (.cells #[.int .i64 y] 3)) w' → At (w.heap.size + 1) v.ownBlock v'.ownBlock →
      wpList Tryz.prog ops Q rest (a.put o.dst v') w') : wpList Tryz.prog ops Q (o :: rest) a (w.alloc (.cells #[.int .i64 y] 3)) :=
  wpList_app hgd s x 53 ho 3 (.int .i64 0) 1 8 Tryz.underlying53 info_i64 rfl (by decide) v n xs hs (hown.alloc _) (some ⟨w.heap.size, 0, none⟩) 1 1 [.int .i64 y] hx rfl (rd_one _ _ _) (by simp) (by simp [Value.oneCell'])
    (by omega) (by omega) (fun v' w' h1 h2 h3 _ => h v' w' h1 h2 (by simpa using h3))
end Go.Proofs.YtdiljpdohmeceaaGreat.O

/- op.EncodeReply, haystackref13.EncodeReply. -/
namespace Go.Proofs.YtdiljpdohmeceaaGreat.opk
open Go.RowKit H O haystacklaw13

theorem app64 {w : World} {ops : Array Oper} {rest : List Oper} {o : Oper} {a : Act} {Q : Exit → Act → World → Prop} (hgd : o.guard = none) (s x : Operand)
    (ho : o.op = .call { callee := .builtin .append, args := #[s, x], argTypes := #[53, 53] })
    (v : Value) (n : Nat) (xs : List Value) (hs : a.eval s = v) (hown : w.ownsRow 0 3 1 v n xs)
    (A : Option Addr) (m c : Nat) (news : List Value) (hx : a.eval x = .slice A m c) (hl : news.length = m) (hrd : Rd w A news) (hnil : A = none → c = 0) (h1 : ∀ u ∈ news, u.oneCell' = true)
    (hm : n + m ≤ 17592186044416)
    (h : ∀ v' w', w'.ownsRow 0 3 1 v' (n + m) (xs ++ news) → Kp v.ownBlock.toList w w' → At w.heap.size v.ownBlock v'.ownBlock →
      wpList Tryz.prog ops Q rest (a.put o.dst v') w') : wpList Tryz.prog ops Q (o :: rest) a w :=
  wpList_app hgd s x 53 ho 3 (.int .i64 0) 1 8 Tryz.underlying53 info_i64 rfl (by decide) v n xs hs hown A m c news hx (by rw [hl, Nat.mul_one]) hrd hnil h1 (by omega) (by omega)
    (fun v' w' h1 h2 h3 _ => h v' w' h1 h2 h3)

theorem kp_lit {w w1 : World} {o : Obj} {n c : Nat} (k : Kp (Value.slice (some ⟨w.heap.size, 0, none⟩) n c).ownBlock.toList (w.alloc o) w1) : Kp [] w w1 :=
  ((Kp.refl [] w).alloc o).trans k (by simp [Value.ownBlock])
/-- a reply's bytes -/
def repBytes (er : Int) (vs : List Int) : List Int := nums [er, ((min vs.length 8 : Nat) : Int)] ++ nums (vs.take (min vs.length 8))
theorem repBytes_len (er : Int) (vs : List Int) : (repBytes er vs).length ≤ 100 := by
  unfold repBytes
  have h1 := nums_len [er, ((min vs.length 8 : Nat) : Int)]
  have h2 := nums_len (vs.take (min vs.length 8))
  rw [List.length_append]
  simp only [List.length_cons, List.length_nil, List.length_take] at h1 h2
  omega

/-- A reply's block. -/
def RepAt (w : World) (b : Nat) (er : Int) (v : Value) : Prop := w.heap[b]? = some (.cells #[.int .i64 er, v] 157)
theorem RepAt.cells {w : World} {b : Nat} {er : Int} {v : Value} (h : RepAt w b er v) : w.cell? ⟨b, 0, none⟩ = some (.int .i64 er) ∧ w.cell? ⟨b, 1, none⟩ = some v := ⟨blk_cell h 0 rfl, blk_cell h 1 rfl⟩
theorem RepAt.new (w : World) (er : Int) (v : Value) : RepAt (w.alloc (.cells #[.int .i64 er, v] 157)) w.heap.size er v := heap_alloc_new w _
theorem RepAt.kp {S : List Nat} {w w1 : World} {b : Nat} {er : Int} {v : Value} (h : RepAt w b er v) (hk : Kp S w w1) (hb : b ∉ S) : RepAt w1 b er v := hk.blk h hb
theorem RepAt.free {w : World} {b : Nat} {er : Int} {v : Value} (h : RepAt w b er v) (j : Nat) : w.frozen? ⟨b, j, none⟩ = false := blk_free h j

/-- two numbers on a new Writer -/
theorem nums_two (w : World) (x y : Int) : Calls Tryz.prog 105 #[.pointer (some ⟨w.heap.size, 0, none⟩), .slice (some ⟨w.heap.size + 1, 0, none⟩) 2 2]
    ((w.alloc (.cells #[.slice none 0 0] 177)).alloc (.cells #[.int .i64 x, .int .i64 y] 3))
    (fun e w' => e = .returned (.tuple #[]) ∧ ∃ g, writer.Wr w' w.heap.size g (nums [x, y]) ∧ (∀ z, g = some z → w.heap.size < z) ∧ Kp [] w w' ∧ w.heap.size < w'.heap.size) := by
  have h := writer.nums_any w.heap.size none [] (some ⟨w.heap.size + 1, 0, none⟩) 2 2 [x, y] ((w.alloc (.cells #[.slice none 0 0] 177)).alloc (.cells #[.int .i64 x, .int .i64 y] 3))
    ((writer.Wr.new w).kp ((Kp.refl [] _).alloc _) (by simp) (by simp)) rfl (by
      have := RdS.lit (S := [w.heap.size]) (w.alloc (.cells #[.slice none 0 0] 177)) [.int .i64 x, .int .i64 y] 3 (by simp)
      simpa [iv] using this) (by decide)
  refine h.mono ?_
  rintro e w' ⟨rfl, g, W1, A1, K1⟩
  refine ⟨rfl, g, by simpa using W1, ?_, (((Kp.refl [] w).alloc _).alloc _).trans K1 (by simp), ?_⟩
  · intro x hx
    rcases A1 with h | ⟨j, h, hj⟩
    · rw [h] at hx; cases hx
    · rw [h] at hx; have := Option.some.inj hx; simp at hj; omega
  · have := K1.size
    simp at this
    omega
/-- more numbers on the Writer; and out -/
theorem nums_out {w w3 : World} {b : Nat} {g : Option Nat} {ys : List Int} (A : Option Addr) (n c : Nat) (vs : List Int) (hn : vs.length = n) (hr : Rd w A (iv .i64 vs))
    (W3 : writer.Wr w3 b g ys) (hb : w.heap.size ≤ b) (hg : ∀ x, g = some x → w.heap.size ≤ x) (K3 : Kp [] w w3) (hn4 : n ≤ 1000000) (hy : ys.length ≤ 1000000) :
    Calls Tryz.prog 105 #[.pointer (some ⟨b, 0, none⟩), .slice A n c] w3
      (fun e w' => e = .returned (.tuple #[]) ∧ (Calls Tryz.prog 107 #[.pointer (some ⟨b, 0, none⟩)] w' fun e w'' => ∃ v, e = .returned v ∧ Own 5 .u8 w'' w.heap.size v (ys ++ nums vs) ∧ Kp [] w w'')) := by
  have hS : ∀ x ∈ b :: g.toList, w.heap.size ≤ x := by
    intro x hx
    rcases List.mem_cons.1 hx with rfl | hx
    · exact hb
    · exact hg x (by simpa using hx)
  have h := writer.nums_any b g ys A n c vs w3 W3 hn (RdS.new hr K3 hS) (by omega)
  refine h.mono ?_
  rintro e w5 ⟨rfl, g5, W5, A5, K5⟩
  refine ⟨rfl, ?_⟩
  have hl := nums_len vs
  have K5' : Kp [] w w5 := K3.trans K5 (fun x hx => .inr (hS x hx))
  refine (writer.out_any b g5 _ w5 W5 (by rw [List.length_append]; omega)).mono ?_
  rintro e w6 ⟨v, rfl, O6, K6⟩
  exact ⟨v, rfl, O6.lower K5'.size, K5'.trans K6 (by simp)⟩

set_option maxHeartbeats 4000000 in
theorem refRep_any (er : Int) (A : Option Addr) (n c : Nat) (vs : List Int) (w : World) (hn : vs.length = n) (hr : Rd w A (iv .i64 vs)) (hc : n ≤ c) (hnil : A = none → c = 0) (hm : n ≤ 1000000) :
    Calls Tryz.prog 16 #[.int .i64 er, .slice A n c] w (RetOwn 5 .u8 w (repBytes er vs)) := by
  obtain ⟨k, hk⟩ : ∃ k, k = min n 8 := ⟨_, rfl⟩
  have hk8 : k ≤ n ∧ k ≤ 8 := by omega
  have HV := As.mk (show Rd w A (iv .i64 (vs.take k)) from by have h := hr.take k; rwa [iv_take] at h)
  have HLV : As ((vs.take k).length = k) := ⟨by rw [List.length_take]; omega⟩
  obtain ⟨us, hus⟩ : ∃ us, us = [er, (k : Int)] ++ vs.take k := ⟨_, rfl⟩
  obtain ⟨T, hT⟩ : ∃ T, T = 2 + k := ⟨_, rfl⟩
  have HFIN : As (nums us = repBytes er vs) := ⟨by rw [repBytes, hn, ← hk, hus, nums_app]⟩
  have HUS := As.mk hus
  have HT := As.mk hT
  have hT9 : T ≤ 10 := by omega
  have HNIL := As.mk hnil
  have HLU : As (us.length = T) := ⟨by rw [hus, List.length_append, HLV.out, hT]; rfl⟩
  have HNU : As (∀ A3 c3 wX, Rd wX A3 (iv .i64 us) → Calls Tryz.prog 41 #[.slice A3 T c3] wX (RetOwn 5 .u8 wX (nums us))) := ⟨fun A3 c3 wX r3 => ref.nums_any A3 T c3 us wX HLU.out r3 (by omega)⟩
  by_cases h8 : 8 < n
  · obtain rfl : k = 8 := by omega
    have hsl : ∀ W, (Instr.slice 53 (.slice A n c) none (some (.int .i64 8)) none).run Tryz.prog W = .ok (.slice A 8 c) W := slice_head htI hzI A n c 8 (by omega) hnil
    clear hr hn hnil hk hus hT
    go_enter Tryz.func16, Tryz.ntmps16
    go_wp2_with (first
      | (at_builtin; refine app64 rfl (.tmp 13) (.tmp 14) rfl (.slice (some ⟨w.heap.size, 0, none⟩) 2 2) 2 [.int .i64 er, .int .i64 8] rfl (own_new w [.int .i64 er, .int .i64 8] _ (show 2 ≤ maxLen by decide)) A 8 c (iv .i64 (vs.take 8)) rfl (by rw [iv_len, HLV.out]) (((Kp.refl [] w).alloc _).rd_new HV.out (by simp)) HNIL.out (iv_one _ _) (by decide) ?_; intro v2 w2 o2 k2 a2; have o2' : w2.ownsRow 0 3 1 v2 T (iv .i64 us) := (by rw [HUS.out, HT.out, iv_app]; exact o2); obtain ⟨A2, c2, rfl, _, _, r2, _⟩ := own_rd o2'; have HK2 : As (Kp [] w w2) := ⟨kp_lit k2⟩; have HN2 := As.mk (HNU.out A2 c2 w2 r2); clear o2 k2 a2 o2' r2)
      | (go_at_call 41; refine HN2.out.mono ?_; rintro e w3 ⟨v3, rfl, o3, k3⟩; have HO3 := As.mk (o3.lower HK2.out.size); have HK3 : As (Kp [] w w3) := ⟨HK2.out.trans k3 (by simp)⟩; clear o3 k3))
    go_ret
    rw [HFIN.out] at HO3
    exact ⟨v3, rfl, HO3.out, HK3.out⟩
  · obtain rfl : k = n := by omega
    clear hr hn hnil hk hus hT
    go_enter Tryz.func16, Tryz.ntmps16
    go_wp2_with (first
      | (at_builtin; refine app64 rfl (.tmp 13) (.tmp 14) rfl (.slice (some ⟨w.heap.size, 0, none⟩) 2 2) 2 [.int .i64 er, .int .i64 (k : Int)] rfl (own_new w [.int .i64 er, .int .i64 (k : Int)] _ (show 2 ≤ maxLen by decide)) A k c (iv .i64 (vs.take k)) rfl (by rw [iv_len, HLV.out]) (((Kp.refl [] w).alloc _).rd_new HV.out (by simp)) HNIL.out (iv_one _ _) (by omega) ?_; intro v2 w2 o2 k2 a2; have o2' : w2.ownsRow 0 3 1 v2 T (iv .i64 us) := (by rw [HUS.out, HT.out, iv_app]; exact o2); obtain ⟨A2, c2, rfl, _, _, r2, _⟩ := own_rd o2'; have HK2 : As (Kp [] w w2) := ⟨kp_lit k2⟩; have HN2 := As.mk (HNU.out A2 c2 w2 r2); clear o2 k2 a2 o2' r2)
      | (go_at_call 41; refine HN2.out.mono ?_; rintro e w3 ⟨v3, rfl, o3, k3⟩; have HO3 := As.mk (o3.lower HK2.out.size); have HK3 : As (Kp [] w w3) := ⟨HK2.out.trans k3 (by simp)⟩; clear o3 k3))
    go_ret
    rw [HFIN.out] at HO3
    exact ⟨v3, rfl, HO3.out, HK3.out⟩
end Go.Proofs.YtdiljpdohmeceaaGreat.opk

/- op.DecodeReply. -/
namespace Go.Proofs.YtdiljpdohmeceaaGreat.opk
open Go.RowKit H O haystacklaw13

/-- append of one number, at a step of a region that draws its order -/
theorem step64_one {w : World} {ops : Array Oper} {o : Oper} {a : Act} {K : Act → World → Prop} {Q : Exit → Act → World → Prop} {E : Prop} (hgd : o.guard = none) (s x : Operand)
    (ho : o.op = .call { callee := .builtin .append, args := #[s, x], argTypes := #[53, 53] })
    (v : Value) (n : Nat) (xs : List Value) (hs : a.eval s = v) (hown : w.ownsRow 0 3 1 v n xs) (g : Nat) (y : Int)
    (hx : a.eval x = .slice (some ⟨g, 0, none⟩) 1 1) (hc : w.cell? ⟨g, 0, none⟩ = some (.int .i64 y)) (hm : n + 1 ≤ 1000000)
    (h : ∀ v' w', w'.ownsRow 0 3 1 v' (n + 1) (xs ++ [.int .i64 y]) → Kp v.ownBlock.toList w w' → At w.heap.size v.ownBlock v'.ownBlock → K (a.put o.dst v') w') :
    if Region.wanted o (yielded ops a.tmps) = true then Oper.wp Tryz.prog o a w K Q else E := by
  have hw : Region.wanted o (yielded ops a.tmps) = true := by simp [Region.wanted, hgd]
  rw [if_pos hw]
  have hrd : Rd w (some ⟨g, 0, none⟩) [.int .i64 y] := by
    intro j u hj
    match j, hj with
    | 0, hj => simp at hj; subst hj; exact ⟨_, rfl, by rw [add_zero']; exact hc⟩
  obtain ⟨v', w', hr, h2, h3, h4, h5⟩ := run_app (P := Tryz.prog) w 53 o.type 3 (.int .i64 0) 1 8 Tryz.underlying53 info_i64 rfl (by decide) v n xs hown (some ⟨g, 0, none⟩) 1 1 [.int .i64 y] rfl hrd (by simp) (by simp [Value.oneCell']) (by omega) (by omega)
  unfold Oper.wp execOp
  simp only [ho, resolve, invoke, builtin, Sem.run_bind, Sem.run_pure, Result.andThen_ok, List.map_toArray, List.map_cons, List.map_nil, hs, hx, hr]
  exact h v' w' h2 h3 h4

/-- what bytes are as a reply -/
def dRep (xs : List Int) : Int × List Int × Int :=
  match stNum (some xs) with
  | (n0, s1) => match stNum s1 with
    | (n1, s2) => if n0 ≤ 100 ∧ n1 ≤ 8 ∧ (stNums n1 s2).2 = some [] then ((n0 : Int), (stNums n1 s2).1, 0) else (0, [], 3)
theorem stNums_none (k : Nat) : (stNums k none).2 = none := by
  induction k with
  | zero => rfl
  | succ k ih => exact ih
theorem stNums_stay {s : Option (List Int)} {k j : Nat} (h : (stNums k s).2 = none) (hj : k ≤ j) : (stNums j s).2 = none := by
  induction j with
  | zero => obtain rfl : k = 0 := by omega
            exact h
  | succ j ih =>
    by_cases e : k = j + 1
    · rw [← e]; exact h
    · rw [reader.stNums_snoc, ih (by omega)]
      rfl
/-- the Reader behind the two numbers, or bad -/
def sRep (n0 n1 : Nat) (s2 : Option (List Int)) : Option (List Int) := if n0 ≤ 100 ∧ n1 ≤ 8 then s2 else none
theorem dRep_eq {xs : List Int} {n0 n1 : Nat} {s1 s2 : Option (List Int)} (h0 : stNum (some xs) = (n0, s1)) (h1 : stNum s1 = (n1, s2)) :
    dRep xs = if (stNums n1 (sRep n0 n1 s2)).2 = some [] then ((n0 : Int), (stNums n1 (sRep n0 n1 s2)).1, 0) else (0, [], 3) := by
  simp only [dRep, h0, h1]
  generalize hs' : sRep n0 n1 s2 = s'
  by_cases h : n0 ≤ 100 ∧ n1 ≤ 8
  · have e : s' = s2 := by rw [← hs', sRep, if_pos h]
    subst e
    by_cases h2 : (stNums n1 s').2 = some []
    · rw [if_pos h2, if_pos ⟨h.1, h.2, h2⟩]
    · rw [if_neg h2, if_neg (fun h3 => h2 h3.2.2)]
  · have e : s' = none := by rw [← hs', sRep, if_neg h]
    subst e
    rw [if_neg (fun h3 => h ⟨h3.1, h3.2.1⟩), if_neg (by rw [stNums_none]; simp)]

/-- Nums into two new numbers -/
theorem rep_nums {w : World} {b : Nat} {g : Option Nat} {s s1 s2 : Option (List Int)} {n0 n1 : Nat} (hR : reader.Rdr w b g s) (hg : ∀ x, g = some x → x < w.heap.size) (hb : (left s).length ≤ 140737488351232) (h0 : stNum s = (n0, s1)) (h1 : stNum s1 = (n1, s2)) :
    Calls Tryz.prog 115 #[.pointer (some ⟨b, 0, none⟩), .slice (some ⟨w.heap.size + 1 + 1, 0, none⟩) 2 2]
      (((w.alloc (.cells #[.int .i64 0] 3)).alloc (.cells #[.int .i64 0] 3)).alloc (.cells #[.pointer (some ⟨w.heap.size, 0, none⟩), .pointer (some ⟨w.heap.size + 1, 0, none⟩)] 155))
      fun e w' => e = .returned (.tuple #[]) ∧ (∃ g', reader.Rdr w' b g' s2 ∧ (g' = g ∨ g' = none)) ∧ w'.cell? ⟨w.heap.size, 0, none⟩ = some (.int .i64 n0) ∧ w'.cell? ⟨w.heap.size + 1, 0, none⟩ = some (.int .i64 n1) ∧ Kp [b] w w' ∧ w.heap.size + 1 < w'.heap.size := by
  obtain ⟨W1, hW1⟩ : ∃ W1, W1 = (w.alloc (.cells #[.int .i64 0] 3)).alloc (.cells #[.int .i64 0] 3) := ⟨_, rfl⟩
  have hs1 : W1.heap.size = w.heap.size + 1 + 1 := by rw [hW1]; simp
  have kW1 : Kp [] w W1 := by rw [hW1]; exact ((Kp.refl [] w).alloc _).alloc _
  have b0 : W1.heap[w.heap.size]? = some (.cells #[.int .i64 0] 3) := by rw [hW1]; exact heap_alloc2_old w _ _
  have b1 : W1.heap[w.heap.size + 1]? = some (.cells #[.int .i64 0] 3) := by rw [hW1]; exact heap_alloc2_new w _ _
  obtain ⟨W, hW⟩ : ∃ W, W = W1.alloc (.cells #[.pointer (some ⟨w.heap.size, 0, none⟩), .pointer (some ⟨w.heap.size + 1, 0, none⟩)] 155) := ⟨_, rfl⟩
  have kW : Kp [] W1 W := by rw [hW]; exact (Kp.refl [] W1).alloc _
  have B0 := kW.blk b0 (by simp)
  have B1 := kW.blk b1 (by simp)
  have hlb := hR.lt
  have hr : Rd W (some ⟨w.heap.size + 1 + 1, 0, none⟩) ([some ⟨w.heap.size, 0, none⟩, some ⟨w.heap.size + 1, 0, none⟩].map Value.pointer) := by
    have := rd_new W1 [.pointer (some ⟨w.heap.size, 0, none⟩), .pointer (some ⟨w.heap.size + 1, 0, none⟩)] 155
    rw [hs1] at this
    rw [hW]
    exact this
  rw [← hW1, ← hW]
  refine (reader.nums_any b g s (some ⟨w.heap.size + 1 + 1, 0, none⟩) 2 2 [some ⟨w.heap.size, 0, none⟩, some ⟨w.heap.size + 1, 0, none⟩] W (hR.kp (kW1.trans kW (by simp)) (by simp) (by simp)) hb rfl (by decide) hr ?_ ?_).mono ?_
  · intro a ha
    cases ha
    refine ⟨by show w.heap.size + 1 + 1 ≠ b; omega, fun p hp q hq => ?_⟩
    simp only [List.mem_cons, List.not_mem_nil, or_false] at hp
    rcases hp with rfl | rfl <;> cases hq
    · show w.heap.size ≠ w.heap.size + 1 + 1; omega
    · show w.heap.size + 1 ≠ w.heap.size + 1 + 1; omega
  · intro p hp q hq
    simp only [List.mem_cons, List.not_mem_nil, or_false] at hp
    rcases hp with rfl | rfl <;> cases hq
    · exact ⟨by show w.heap.size ≠ b; omega, fun h => by have h9 : w.heap.size < w.heap.size := hg _ h; omega, ⟨_, blk_cell B0 0 rfl⟩, blk_free B0 0⟩
    · exact ⟨by show w.heap.size + 1 ≠ b; omega, fun h => by have h9 : w.heap.size + 1 < w.heap.size := hg _ h; omega, ⟨_, blk_cell B1 0 rfl⟩, blk_free B1 0⟩
  · rintro e w' ⟨rfl, ⟨g', hR', hg'⟩, hos, htp, hout, hsz, hbl⟩
    have e1 : (stNums 2 s).1 = [(n0 : Int), (n1 : Int)] := by simp only [stNums, h0, h1]
    have e2 : (stNums 2 s).2 = s2 := by simp only [stNums, h0, h1]
    have hlen : [some (⟨w.heap.size, 0, none⟩ : Addr), some ⟨w.heap.size + 1, 0, none⟩].length = 2 := rfl
    rw [hlen] at hR' hbl
    rw [e1] at hbl
    rw [e2] at hR'
    have hsW := kW.size
    have kk := kW1.trans kW (by simp)
    have q0 : w'.heap[w.heap.size]? = some (.cells #[.int .i64 n0] 3) := by
      rw [hbl w.heap.size (by omega) (by omega)]
      show ((W.setCell ⟨w.heap.size, 0, none⟩ (.int .i64 n0)).setCell ⟨w.heap.size + 1, 0, none⟩ (.int .i64 n1)).heap[w.heap.size]? = _
      rw [heap_setCell_other _ _ _ _ (by show w.heap.size ≠ w.heap.size + 1; omega)]
      exact heap_setCell_same W w.heap.size 0 _ _ (.int .i64 n0) B0
    have q1 : w'.heap[w.heap.size + 1]? = some (.cells #[.int .i64 n1] 3) := by
      rw [hbl (w.heap.size + 1) (by omega) (by omega)]
      show ((W.setCell ⟨w.heap.size, 0, none⟩ (.int .i64 n0)).setCell ⟨w.heap.size + 1, 0, none⟩ (.int .i64 n1)).heap[w.heap.size + 1]? = _
      exact heap_setCell_same _ (w.heap.size + 1) 0 #[.int .i64 0] _ (.int .i64 n1) (by rw [heap_setCell_other _ _ _ _ (by show w.heap.size + 1 ≠ w.heap.size; omega)]; exact B1)
    refine ⟨rfl, ⟨g', hR', hg'⟩, blk_cell q0 0 rfl, blk_cell q1 0 rfl, ⟨hos.trans kk.os, htp.trans kk.tape, hout.trans kk.output, by omega, fun i hi hn => ?_⟩, by omega⟩
    simp only [List.mem_singleton] at hn
    rw [hbl i (by omega) hn, reader.putAll_far]
    · exact kk.block i hi (by simp)
    · intro x hx a ha
      simp only [List.zip_cons_cons, List.zip_nil_right, List.mem_cons, List.not_mem_nil, or_false] at hx
      rcases hx with rfl | rfl <;> cases ha
      · show w.heap.size ≠ i; omega
      · show w.heap.size + 1 ≠ i; omega

/-- behind DecodeReply -/
def DRep (xs : List Int) (w : World) (e : Ending) (w' : World) : Prop :=
  ∃ (er : Int) (l : List Int) (z : Int) (A : Option Addr) (n c : Nat), dRep xs = (er, l, z) ∧ e = .returned (.tuple #[.agg #[.int .i64 er, .slice A n c], .int .i64 z]) ∧ l.length = n ∧ Rd w' A (iv .i64 l) ∧ n ≤ c ∧ (A = none → c = 0) ∧ Kp [] w w'
def lenAt (w : World) (X : Nat) : Nat := match w.cell? ⟨X, 1, none⟩ with
  | some (.slice _ n _) => n
  | _ => 0
theorem RepAt.lenAt {w : World} {b : Nat} {er : Int} {A : Option Addr} {n c : Nat} (h : RepAt w b er (.slice A n c)) : lenAt w b = n := by
  unfold opk.lenAt
  rw [h.cells.2]
/-- where DecodeReply stands -/
structure DR (w wr : World) (M b X : Nat) (n0 n1 : Nat) (v : Value) (l : List Int) (s : Option (List Int)) : Prop where
  kp : Kp [] w wr
  res : RepAt wr w.heap.size 0 (.slice none 0 0)
  many : wr.cell? ⟨M, 0, none⟩ = some (.int .i64 n1)
  x : RepAt wr X n0 v
  own : wr.ownsRow 0 3 1 v l.length (iv .i64 l)
  lo : ∀ y, v.ownBlock = some y → X < y
  rdr : ∃ g, reader.Rdr wr b g s ∧ ∀ y, g = some y → w.heap.size < y ∧ y < X
  ord : w.heap.size < b ∧ w.heap.size < M ∧ b < X ∧ M < X ∧ M ≠ b
theorem DR.skip {w wr w1 : World} {M b X n0 n1 : Nat} {v : Value} {l : List Int} {s : Option (List Int)} (h : DR w wr M b X n0 n1 v l s) (k : Kp [] wr w1) : DR w w1 M b X n0 n1 v l s := by
  obtain ⟨g, hr, hg⟩ := h.rdr
  exact ⟨h.kp.trans k (by simp), h.res.kp k (by simp), k.cell h.many (by simp), h.x.kp k (by simp), k.own h.own (by simp), h.lo, ⟨g, hr.kp k (by simp) (by simp), hg⟩, h.ord⟩
/-- a number is taken -/
theorem DR.took {w wr w1 : World} {M b X n0 n1 : Nat} {v : Value} {l : List Int} {s s' : Option (List Int)} {g g' : Option Nat} (h : DR w wr M b X n0 n1 v l s) (hg : ∀ y, g = some y → w.heap.size < y ∧ y < X) (R : reader.Rdr w1 b g' s') (G : g' = g ∨ g' = none) (k : Kp [b] wr w1) : DR w w1 M b X n0 n1 v l s' := by
  obtain ⟨o1, o2, o3, o4, o5⟩ := h.ord
  have hb : ∀ x ∈ [b], x ∈ ([] : List Nat) ∨ w.heap.size ≤ x := by intro x hx; simp at hx; right; omega
  exact ⟨h.kp.trans k hb, h.res.kp k (by simp; omega), k.cell h.many (by simpa using o5), h.x.kp k (by simp; omega), k.own h.own (fun y hy => by have := h.lo y hy; simp; omega), h.lo, ⟨g', R, fun y hy => by rcases G with e | e; exact hg y (by rw [← e]; exact hy); rw [e] at hy; cases hy⟩, h.ord⟩
/-- and appended, and stored -/
theorem DR.put {w wr w2 : World} {M b X n0 n1 : Nat} {v v' : Value} {l : List Int} {s : Option (List Int)} {y : Int} {n : Nat} (h : DR w wr M b X n0 n1 v l s) (hl : l.length = n) (o : w2.ownsRow 0 3 1 v' (n + 1) (iv .i64 l ++ [.int .i64 y])) (k : Kp v.ownBlock.toList wr w2) (a : At wr.heap.size v.ownBlock v'.ownBlock) :
    w2.cell? ⟨X, 1, none⟩ = some v ∧ w2.frozen? ⟨X, 1, none⟩ = false ∧ DR w (w2.setCell ⟨X, 1, none⟩ v') M b X n0 n1 v' (l ++ [y]) s := by
  subst hl
  obtain ⟨o1, o2, o3, o4, o5⟩ := h.ord
  obtain ⟨g, hr, hg⟩ := h.rdr
  have hXlt := lt_of_block h.x
  have hX : X ∉ v.ownBlock.toList := fun hm => by have := h.lo X (by simpa using hm); omega
  have hx2 := h.x.kp k hX
  have hS : ∀ i, i < X → i ∉ v.ownBlock.toList := fun i hi hm => by have := h.lo i (by simpa using hm); omega
  have ks : Kp [X] w2 (w2.setCell ⟨X, 1, none⟩ v') := (Kp.refl _ _).setCell (.inl (by simp)) _
  have lo' : ∀ z, v'.ownBlock = some z → X < z := by
    intro z hz
    rcases a with e | ⟨j, e, hj⟩
    · exact h.lo z (by rw [← e]; exact hz)
    · rw [e] at hz; cases hz; omega
  refine ⟨hx2.cells.2, hx2.free 1, ⟨(h.kp.row k (fun z hz => .inr (by have := h.lo z hz; omega))).trans ks (by intro z hz; simp at hz; omega), (h.res.kp k (hS _ (by omega))).kp ks (by simp; omega), ks.cell (k.cell h.many (hS _ o4)) (by simp; omega), heap_setCell_same w2 X 1 _ _ v' hx2, ?_, lo', ⟨g, (hr.kp k (hS _ o3) (fun z hz => hS z (hg z hz).2)).kp ks (by simp; omega) (fun z hz => by have := hg z hz; simp; omega), hg⟩, h.ord⟩⟩
  have o' := ks.own o (fun z hz => by have := lo' z hz; simp; omega)
  rw [List.length_append, iv_app]
  exact o'
end Go.Proofs.YtdiljpdohmeceaaGreat.opk

/- A row of bytes that is gathered. -/
namespace Go.Proofs.YtdiljpdohmeceaaGreat.H
open Go.RowKit
theorem Rs.pre {S : List Nat} {w : World} {A : Option Addr} {l r : List (List Int)} (h : Rs S w A (l ++ r)) : Rs S w A l := by
  intro j hj
  obtain ⟨a, Aj, cj, rfl, h0, hc, h1, h2, h3⟩ := h j (by rw [List.length_append]; omega)
  have e : (l ++ r)[j]'(by rw [List.length_append]; omega) = l[j] := List.getElem_append_left hj
  rw [e] at hc h1 h3
  exact ⟨a, Aj, cj, rfl, h0, hc, h1, h2, h3⟩
theorem Rs.take {S : List Nat} {w : World} {A : Option Addr} {l : List (List Int)} (h : Rs S w A l) (n : Nat) : Rs S w A (l.take n) := by
  have e : l = l.take n ++ l.drop n := (List.take_append_drop n l).symm
  rw [e] at h
  exact h.pre
/-- A row of bytes that is gathered: it owns X, in a block of the call's own. -/
structure Acc (w wr : World) (v : Value) (T : Nat) (X : List Int) : Prop where
  own : wr.ownsRow 0 5 1 v T (iv .u8 X)
  lo : ∀ g, v.ownBlock = some g → w.heap.size ≤ g
  kp : Kp [] w wr
theorem Acc.len {w wr : World} {v : Value} {T : Nat} {X : List Int} (h : Acc w wr v T X) : X.length = T := by have := h.own.1; rw [iv_len] at this; omega
theorem Acc.keep {w wr w1 : World} {v : Value} {T : Nat} {X : List Int} (h : Acc w wr v T X) (k : Kp [] wr w1) : Acc w w1 v T X := ⟨k.own h.own (by simp), h.lo, h.kp.trans k (by simp)⟩
theorem Acc.more {w wr w1 : World} {v v1 : Value} {T m T' : Nat} {X y : List Int} (h : Acc w wr v T X) (o : w1.ownsRow 0 5 1 v1 (T + m) (iv .u8 X ++ iv .u8 y)) (k : Kp v.ownBlock.toList wr w1) (a : At wr.heap.size v.ownBlock v1.ownBlock) (hT : T' = T + m) : Acc w w1 v1 T' (X ++ y) :=
  ⟨by rw [iv_app, hT]; exact o, a.ge h.kp.size h.lo, h.kp.row k (fun x hx => .inr (h.lo x hx))⟩
theorem Acc.one {w wr w1 : World} {v v1 : Value} {T T' : Nat} {X : List Int} {y : Int} (h : Acc w wr v T X) (o : w1.ownsRow 0 5 1 v1 (T + 1) (iv .u8 X ++ [.int .u8 y])) (k : Kp v.ownBlock.toList (wr.alloc (.cells #[.int .u8 y] 5)) w1) (a : At (wr.heap.size + 1) v.ownBlock v1.ownBlock) (hT : T' = T + 1) : Acc w w1 v1 T' (X ++ [y]) :=
  ⟨by rw [iv_app, hT]; exact o, a.ge (by have := h.kp.size; omega) h.lo, (h.kp.alloc _).row k (fun x hx => .inr (h.lo x hx))⟩
theorem Acc.empty {w w2 : World} (k : Kp [] w w2) : Acc w (w2.alloc (.cells #[] 5)) (.slice (some ⟨w2.heap.size, 0, none⟩) 0 0) 0 [] :=
  ⟨own_new w2 [] _ (Nat.zero_le _), by have := k.size; intro g hg; simp [Value.ownBlock] at hg; omega, k.alloc _⟩
theorem Acc.nil (w : World) : Acc w w (.slice none 0 0) 0 [] := ⟨World.ownsRow_nil w 0 _ 1, by simp [Value.ownBlock], Kp.refl _ _⟩
end Go.Proofs.YtdiljpdohmeceaaGreat.H

/- haystackref13.Encode. -/
namespace Go.Proofs.YtdiljpdohmeceaaGreat.ref13
open Go.RowKit H O opk haystacklaw13

theorem key_any (s : ByteArray) (w : World) : Calls Tryz.prog 79 #[.string s] w fun e w' => e = .returned (.bool (decide (1 ≤ s.size ∧ s.size ≤ 64))) ∧ w' = w := by
  obtain ⟨n, hn⟩ : ∃ n, s.size = n := ⟨_, rfl⟩
  by_cases h1 : 1 ≤ n
  · have h1' : (1 : Int) ≤ (n : Int) := by omega
    by_cases h2 : n ≤ 64
    · have h2' : (n : Int) ≤ 64 := by omega
      go_enter Tryz.func79, Tryz.ntmps79
      go_wp2
      go_ret
      exact ⟨by rw [decide_eq_true (by omega)]; rfl, rfl⟩
    · have h2' : ¬ (n : Int) ≤ 64 := by omega
      go_enter Tryz.func79, Tryz.ntmps79
      go_wp2
      go_ret
      exact ⟨rfl, rfl⟩
  · have h1' : ¬ (1 : Int) ≤ (n : Int) := by omega
    go_enter Tryz.func79, Tryz.ntmps79
    go_wp2
    go_ret
    exact ⟨rfl, rfl⟩

theorem acc_off {w w' : World} {o : Obj} {v : Value} {T : Nat} {X : List Int} (h : Acc (w.alloc o) w' v T X) : v.ownBlock ≠ some w.heap.size := by
  intro hb
  have := h.lo _ hb
  rw [World.size_alloc] at this
  omega
theorem enc_fin {k cl sq : Int} {key : ByteArray} {text : List Int} {w w0 w' : World} {v : Value} {T : Nat} (he : opErr k cl sq key.size text.length = 0) (h : Acc w0 w' v T (opBytes k cl sq key text)) (k0 : Kp [] w w0) :
    EncPost k cl sq key text w (.returned (.tuple #[v, .int .i64 0])) w' := by
  refine ⟨v, by rw [he], ?_, k0.trans h.kp (by simp)⟩
  rw [he, if_pos rfl]
  exact ⟨by rw [h.len]; exact h.own, fun g hg => Nat.le_trans k0.size (h.lo g hg)⟩
theorem within1_iff {x : Int} : within1 x = true ↔ ¬ x < 0 ∧ ¬ 1099511627776 < x := by
  unfold within1
  simp only [Bool.and_eq_true, decide_eq_true_eq]
  omega

set_option maxHeartbeats 8000000 in
set_option maxRecDepth 100000 in
-- PART N
theorem encode_no (k cl sq : Int) (key : ByteArray) (m : Nat) (hkm : key.size = m) (A : Option Addr) (n c : Nat) (text : List Int) (w : World) (hn : text.length = n) (hm : n ≤ 4611686018427387904) (he : opErr k cl sq m n ≠ 0) :
    Calls Tryz.prog 39 #[.agg #[.int .i64 k, .int .i64 cl, .int .i64 sq, .string key, .slice A n c]] w (EncPost k cl sq key text w) := by
  have HIX : As (∀ b, decide (1 ≤ m ∧ m ≤ 64) = b → ∀ w, Calls Tryz.prog 79 #[.string key] w fun e w' => e = .returned (.bool b) ∧ w' = w) := ⟨fun b hb w => by
    have h := key_any key w
    rwa [hkm, hb] at h⟩
  have HK1 := As.mk ((Kp.refl [] w).alloc (.cells #[.int .i64 k, .int .i64 cl, .int .i64 sq, .string key, .slice A n c] 46))
  by_cases h1 : k = 1 ∨ k = 2
  · by_cases h5 : opErr k cl sq m n = 5
    · have HE : As (5 = opErr k cl sq key.size text.length) := ⟨by rw [hkm, hn]; exact h5.symm⟩
      have h6 : k = 1 ∧ (¬ cl < 0 ∧ ¬ 1099511627776 < cl) ∧ (¬ sq < 0 ∧ ¬ 1099511627776 < sq) ∧ (1 ≤ m ∧ m ≤ 64) ∧ 4096 < n := by
        unfold opErr at h5
        split at h5
        · omega
        · rename_i h9
          split at h5
          · simp only [not_or, Bool.not_eq_false, Bool.and_eq_true, within1_iff, Classical.not_not] at h9
            obtain ⟨h91, ⟨h92, h93⟩, h94, h95⟩ := h9
            refine ⟨by omega, h92, h93, h94, by assumption⟩
          · omega
      obtain ⟨rfl, ⟨a1, a2⟩, ⟨a3, a4⟩, a5, a6⟩ := h6
      have HI := As.mk (HIX.out true (decide_eq_true a5))
      clear he h5 HIX hn hkm h1 a5
      go_enter Tryz.func39, Tryz.ntmps39
      go_wp2_with (go_at_call 79; refine (HI.out _).mono ?_; rintro e w2 ⟨rfl, rfl⟩)
      go_ret2
      exact enc_none HE.out (by decide) HK1.out
    · have h11 : opErr k cl sq m n = 1 := by
        unfold opErr at he h5 ⊢
        split
        · rfl
        · rename_i h9
          rw [if_neg h9] at he h5
          split at he
          · rename_i h10
            rw [if_pos h10] at h5
            exact absurd rfl h5
          · exact absurd rfl he
      have HE : As (1 = opErr k cl sq key.size text.length) := ⟨by rw [hkm, hn]; exact h11.symm⟩
      have D : cl < 0 ∨ (¬ cl < 0 ∧ 1099511627776 < cl) ∨ ((¬ cl < 0 ∧ ¬ 1099511627776 < cl) ∧ sq < 0) ∨ ((¬ cl < 0 ∧ ¬ 1099511627776 < cl) ∧ (¬ sq < 0 ∧ 1099511627776 < sq)) ∨
          ((¬ cl < 0 ∧ ¬ 1099511627776 < cl) ∧ (¬ sq < 0 ∧ ¬ 1099511627776 < sq) ∧ decide (1 ≤ m ∧ m ≤ 64) = false) ∨ ((¬ cl < 0 ∧ ¬ 1099511627776 < cl) ∧ (¬ sq < 0 ∧ ¬ 1099511627776 < sq) ∧ decide (1 ≤ m ∧ m ≤ 64) = true ∧ k = 2 ∧ 0 < n) := by
        unfold opErr at h11
        split at h11
        · rename_i h9
          by_cases b1 : cl < 0
          · exact .inl b1
          · by_cases b2 : 1099511627776 < cl
            · exact .inr (.inl ⟨b1, b2⟩)
            · by_cases b3 : sq < 0
              · exact .inr (.inr (.inl ⟨⟨b1, b2⟩, b3⟩))
              · by_cases b4 : 1099511627776 < sq
                · exact .inr (.inr (.inr (.inl ⟨⟨b1, b2⟩, b3, b4⟩)))
                · have hw : (within1 cl && within1 sq) = true := by rw [Bool.and_eq_true, within1_iff, within1_iff]; exact ⟨⟨b1, b2⟩, b3, b4⟩
                  by_cases b5 : 1 ≤ m ∧ m ≤ 64
                  · refine .inr (.inr (.inr (.inr (.inr ⟨⟨b1, b2⟩, ⟨b3, b4⟩, decide_eq_true b5, ?_⟩))))
                    rw [hw] at h9
                    simp only [Bool.true_eq_false, false_or] at h9
                    omega
                  · exact .inr (.inr (.inr (.inr (.inl ⟨⟨b1, b2⟩, ⟨b3, b4⟩, decide_eq_false b5⟩))))
        · split at h11 <;> omega
      clear he h5 h11 hn hkm
      rcases D with a1 | ⟨a1, a2⟩ | ⟨⟨a1, a2⟩, a3⟩ | ⟨⟨a1, a2⟩, a3, a4⟩ | ⟨⟨a1, a2⟩, ⟨a3, a4⟩, a5⟩ | ⟨⟨a1, a2⟩, ⟨a3, a4⟩, a5, a6, a7⟩
      case inr.inr.inr.inr.inr =>
        have HI := As.mk (HIX.out true a5)
        clear HIX a5 h1
        subst a6
        go_enter Tryz.func39, Tryz.ntmps39
        go_wp2_with (go_at_call 79; refine (HI.out _).mono ?_; rintro e w2 ⟨rfl, rfl⟩)
        go_ret2
        exact enc_none HE.out (by decide) HK1.out
      case inr.inr.inr.inr.inl =>
        have HI := As.mk (HIX.out false a5)
        clear HIX a5
        rcases h1 with rfl | rfl
        all_goals
          go_enter Tryz.func39, Tryz.ntmps39
          go_wp2_with (go_at_call 79; refine (HI.out _).mono ?_; rintro e w2 ⟨rfl, rfl⟩)
          go_ret2
          exact enc_none HE.out (by decide) HK1.out
      all_goals
        clear HIX
        rcases h1 with rfl | rfl
        all_goals
          go_enter Tryz.func39, Tryz.ntmps39
          go_wp2
          go_ret2
          exact enc_none HE.out (by decide) HK1.out
  · have HE : As (1 = opErr k cl sq key.size text.length) := ⟨by rw [opErr, if_pos (.inl (by omega))]⟩
    have hk1 : (k != 1) = true := by simp; omega
    have hk2 : (k != 2) = true := by simp; omega
    clear h1 he HIX hn hkm
    go_enter Tryz.func39, Tryz.ntmps39
    go_wp2
    go_ret2
    exact enc_none HE.out (by decide) HK1.out
-- END N

set_option maxHeartbeats 8000000 in
set_option maxRecDepth 100000 in
-- PART O
theorem encode_ok (k cl sq : Int) (key : ByteArray) (m : Nat) (hkm : key.size = m) (A : Option Addr) (n c : Nat) (text : List Int) (w : World) (hn : text.length = n) (hr : Rd w A (iv .u8 text)) (hnil : A = none → c = 0)
    (hk : k = 1 ∨ (k = 2 ∧ ¬ 0 < n)) (hb2 : (within1 cl && within1 sq) = true) (hb3 : 1 ≤ m ∧ m ≤ 64) (hb5 : n ≤ 4096) (he : opErr k cl sq m n = 0) :
    Calls Tryz.prog 39 #[.agg #[.int .i64 k, .int .i64 cl, .int .i64 sq, .string key, .slice A n c]] w (EncPost k cl sq key text w) := by
  rw [Bool.and_eq_true, within1_iff, within1_iff] at hb2
  obtain ⟨⟨a1, a2⟩, a3, a4⟩ := hb2
  have HI : As (∀ w, Calls Tryz.prog 79 #[.string key] w fun e w' => e = .returned (.bool true) ∧ w' = w) := ⟨fun w => by
    have h := key_any key w
    rwa [hkm, decide_eq_true hb3] at h⟩
  obtain ⟨X1, hX1⟩ : ∃ X, X = nums [k, cl, sq] := ⟨_, rfl⟩
  obtain ⟨T1, hT1⟩ : ∃ T, X1.length = T := ⟨_, rfl⟩
  obtain ⟨Y1, hY1⟩ : ∃ Y, Y = row (kb key) := ⟨_, rfl⟩
  obtain ⟨R1, hR1⟩ : ∃ R, Y1.length = R := ⟨_, rfl⟩
  obtain ⟨T2, hT2⟩ : ∃ T, T = T1 + R1 := ⟨_, rfl⟩
  obtain ⟨Y2, hY2⟩ : ∃ Y, Y = row text := ⟨_, rfl⟩
  obtain ⟨R2, hR2⟩ : ∃ R, Y2.length = R := ⟨_, rfl⟩
  obtain ⟨T3, hT3⟩ : ∃ T, T = T2 + R2 := ⟨_, rfl⟩
  have hl1 : T1 ≤ 1000000 := by rw [← hT1, hX1]; exact nums3_len _ _ _
  have hl2 : R1 ≤ 1000 := by have := row_len (kb key); rw [← hR1, hY1]; rw [kb_len] at this; omega
  have hl3 : R2 ≤ 5000 := by have := row_len text; rw [← hR2, hY2]; omega
  have HFIN : As (X1 ++ Y1 ++ Y2 = opBytes k cl sq key text) := ⟨by rw [hX1, hY1, hY2, opBytes_eq]; simp [nums_cons, nums_nil]⟩
  have HNU : As (∀ wX, Kp [] (w.alloc (.cells #[.int .i64 k, .int .i64 cl, .int .i64 sq, .string key, .slice A n c] 46)) wX → Calls Tryz.prog 41 #[.slice (some ⟨wX.heap.size, 0, none⟩) 3 3] (wX.alloc (.cells #[.int .i64 k, .int .i64 cl, .int .i64 sq] 3)) fun e w' => ∃ A3 c3, e = .returned (.slice A3 T1 c3) ∧ Acc (w.alloc (.cells #[.int .i64 k, .int .i64 cl, .int .i64 sq, .string key, .slice A n c] 46)) w' (.slice A3 T1 c3) T1 X1 ∧ Kp [] wX w') := ⟨fun wX kX => by
    refine (ref.nums_any (some ⟨wX.heap.size, 0, none⟩) 3 3 [k, cl, sq] _ rfl (rd_new wX (iv .i64 [k, cl, sq]) 3) (by decide)).mono ?_
    rintro e w' ⟨v, rfl, o, kk⟩
    rw [← hX1] at o
    have o1 := o.1
    rw [hT1] at o1
    obtain ⟨A3, c3, rfl, _⟩ := own_rd o1
    have hkk : Kp [] wX w' := ((Kp.refl [] wX).alloc _).trans kk (by simp)
    exact ⟨A3, c3, rfl, ⟨o1, fun g hg => by have h1 := o.2 g hg; have h2 := kX.size; rw [World.size_alloc] at h1 h2 ⊢; omega, kX.trans hkk (by simp)⟩, hkk⟩⟩
  have HB1 : As (∀ (w3 : World), Calls Tryz.prog 43 #[.slice (some ⟨w3.heap.size, 0, none⟩) m (grownCap w3 m 0 5)] (Lib.bytesWorld w3 5 key) fun e w' => ∃ A5 c5, e = .returned (.slice A5 R1 c5) ∧ Rd w' A5 (iv .u8 Y1) ∧ (A5 = none → c5 = 0) ∧ Kp [] w3 w') := ⟨fun w3 => by
    refine (ref.bytes_any (some ⟨w3.heap.size, 0, none⟩) m (grownCap w3 m 0 5) (kb key) _ (by rw [kb_len, hkm]) (rd_bytes w3 5 key) (by simp) (by omega)).mono ?_
    rintro e w' ⟨v, rfl, o, kk⟩
    rw [← hY1] at o
    obtain ⟨A5, c5, rfl, _, _, r5, n5⟩ := own_rd o.1
    rw [hR1]
    exact ⟨A5, c5, rfl, r5, n5, (kp_bytes (Kp.refl [] w3) 5 key).trans kk (by simp)⟩⟩
  have HB2 : As (∀ (wX : World), Kp [] w wX → Calls Tryz.prog 43 #[.slice A n c] wX fun e w' => ∃ A5 c5, e = .returned (.slice A5 R2 c5) ∧ Rd w' A5 (iv .u8 Y2) ∧ (A5 = none → c5 = 0) ∧ Kp [] wX w') := ⟨fun wX kX => by
    refine (ref.bytes_any A n c text wX hn (kX.rd_new hr (by simp)) hnil (by omega)).mono ?_
    rintro e w' ⟨v, rfl, o, kk⟩
    rw [← hY2] at o
    obtain ⟨A5, c5, rfl, _, _, r5, n5⟩ := own_rd o.1
    rw [hR2]
    exact ⟨A5, c5, rfl, r5, n5, kk⟩⟩
  have HCV : As (∀ w, (convert 9 24 (.string key)).run Tryz.prog w = .ok (.slice (some ⟨w.heap.size, 0, none⟩) m (grownCap w m 0 5)) (Lib.bytesWorld w 5 key)) := ⟨fun w => by
    rw [← hkm]
    exact Lib.run_convert_string_bytes w 9 24 5 key Tryz.underlying9 Tryz.underlying24 Tryz.underlying5⟩
  have HE : As (opErr k cl sq key.size text.length = 0) := ⟨by rw [hkm, hn]; exact he⟩
  have HR1 := As.mk hR1
  have HR2 := As.mk hR2
  have HT2 := As.mk hT2
  have HT3 := As.mk hT3
  have HBX := As.mk (OpAt.new w k cl sq key A n c)
  have HK0 := As.mk ((Kp.refl [] w).alloc (.cells #[.int .i64 k, .int .i64 cl, .int .i64 sq, .string key, .slice A n c] 46))
  have hnu := HNU.out _ (Kp.refl [] _)
  rw [World.size_alloc] at hnu
  have HNU1 := As.mk hnu
  have hT29 : T2 ≤ 1001000 := by omega
  clear hr hn hnil he hkm hb3 hX1 hT1 hY1 hR1 hT2 hY2 hR2 hT3 HNU hnu
  rcases hk with rfl | ⟨rfl, hn0⟩
  all_goals
    go_enter Tryz.func39, Tryz.ntmps39
    go_wp2_with (first
      | (go_at_call 79; refine (HI.out _).mono ?_; rintro e w2 ⟨rfl, rfl⟩)
      | (go_at_call 41; refine HNU1.out.mono ?_; rintro e w3 ⟨A3, c3, rfl, a3, k3⟩; have HA3 := As.mk a3; have HO3 := As.mk (HBX.out.kp k3 (by simp)); obtain ⟨d0, d1, d2, d3, d4⟩ := HO3.out.cells; have hcv3 := HCV.out w3; have HB11 := As.mk (HB1.out w3); clear a3 k3 HNU1 HB1)
      | (go_at_call 43; refine HB22.out.mono ?_; rintro e w7 ⟨A7, c7, rfl, r7, n7, k7⟩; have HR7 := As.mk r7; have HN7 := As.mk n7; have HA7 := As.mk (HA6.out.keep k7); clear r7 n7 k7 HB22 HA6)
      | (go_at_call 43; refine HB11.out.mono ?_; rintro e w5 ⟨A5, c5, rfl, r5, n5, k5⟩; have HR5 := As.mk r5; have HN5 := As.mk n5; have HA5 := As.mk (HA3.out.keep k5); have HO5 := As.mk (HO3.out.kp k5 (by simp)); clear r5 n5 k5 HB11 d0 d1 d2 d3 d4 HA3 HO3)
      | (at_builtin; refine clone.app8 rfl (.tmp 68) (.tmp 71) rfl (.slice A6 T2 c6) T2 (iv .u8 (X1 ++ Y1)) rfl HA7.out.own A7 R2 c7 (iv .u8 Y2) rfl (by rw [iv_len, HR2.out]) HR7.out HN7.out (iv_one _ _) (by omega) ?_; intro v8 w8 o8 k8 a8; have h8 := HA7.out.more o8 k8 a8 HT3.out; rw [HFIN.out] at h8; obtain ⟨A8, c8, rfl, _, _, _, _⟩ := own_rd h8.own; have HA8 := As.mk h8; clear o8 k8 a8 h8)
      | (at_builtin; refine clone.app8 rfl (.tmp 62) (.tmp 66) rfl (.slice A3 T1 c3) T1 (iv .u8 X1) rfl HA5.out.own A5 R1 c5 (iv .u8 Y1) rfl (by rw [iv_len, HR1.out]) HR5.out HN5.out (iv_one _ _) (by omega) ?_; intro v6 w6 o6 k6 a6; have h6 := HA5.out.more o6 k6 a6 HT2.out; obtain ⟨A6, c6, rfl, _, _, _, _⟩ := own_rd h6.own; have HA6 := As.mk h6; have ho6 := HO5.out.kp k6 (fun hm => acc_off HA5.out (by simpa using hm)); obtain ⟨-, -, -, -, d4⟩ := ho6.cells; have HB22 := As.mk (HB2.out w6 (HK0.out.trans h6.kp (by simp))); clear o6 k6 a6 h6 ho6 HB2 HA5))
    go_ret2
    exact enc_fin HE.out HA8.out HK0.out
-- END O

/-- the document's Encode -/
theorem encode_any (k cl sq : Int) (key : ByteArray) (A : Option Addr) (n c : Nat) (text : List Int) (w : World) (hn : text.length = n) (hr : Rd w A (iv .u8 text)) (hnil : A = none → c = 0) (hm : n ≤ 4611686018427387904) :
    Calls Tryz.prog 39 #[.agg #[.int .i64 k, .int .i64 cl, .int .i64 sq, .string key, .slice A n c]] w (EncPost k cl sq key text w) := by
  by_cases h : opErr k cl sq key.size n = 0
  · obtain ⟨h1, h2, h3, h4⟩ := opErr_ne.1 h
    exact encode_ok k cl sq key _ rfl A n c text w hn hr hnil h1 h2 h3 h4 h
  · exact encode_no k cl sq key _ rfl A n c text w hn hm h
end Go.Proofs.YtdiljpdohmeceaaGreat.ref13

/- Arguments opened: what a reading of a slice of numbers, of rows of numbers, says in the words of Heap. Over any program. -/
namespace Go.Proofs.YtdiljpdohmeceaaGreat.H
open Go.ChangeShapes Go.WideShapes Go.ChangeAt Go.RowKit Go.Deep

section
variable {H : Type} {enc : TypeId × Value → H} {P : Program} {W : World}

theorem open_nums {t e : TypeId} {k : IntKind} {A : Option Addr} {n c : Nat} {d : DataW H} {ps : List MemPlace} (ht : P.underlying t = some (.slice e)) (he : P.underlying e = some (.int k)) (hc : P.cellsOf e = 1)
    (h : DataW.Trod enc P W 0 (fun _ => true) true t (.slice A n c) d ps) :
    ∃ xs : List Int, xs.length = n ∧ Rd W A (iv k xs) ∧ n ≤ c ∧ c ≤ 9223372036854775807 ∧ (A = none → c = 0) ∧ ∀ x ∈ xs, (Lit.int k x).wf = true := by
  obtain ⟨fuel, hf⟩ := h
  rcases open_ints ht he hc hf with ⟨hcs, _⟩ | ⟨x, l, cp, zs, hcs, _, hl, hm, hz, _, hcell, hwz⟩
  · simp [Value.cells] at hcs
    obtain ⟨rfl, rfl, rfl⟩ := hcs
    exact ⟨[], rfl, Rd.nil _ _, Nat.le_refl _, by omega, fun _ => rfl, by simp⟩
  · simp [Value.cells] at hcs
    obtain ⟨rfl, rfl, rfl⟩ := hcs
    have hz' : zs.length = c := by simpa using hz
    refine ⟨zs.take n, by rw [List.length_take]; omega, ?_, hl, hm, by simp, fun y hy => hwz y (List.mem_of_mem_take hy)⟩
    intro j v hv
    have hj : j < n := by
      have := (List.getElem?_eq_some_iff.1 hv).1
      rw [iv_len, List.length_take] at this
      omega
    refine ⟨x, rfl, ?_⟩
    rw [hcell j (by omega), ← hv]
    simp [iv, hj, show j < zs.length by omega]

theorem open_rows {t e q : TypeId} {A : Option Addr} {n c : Nat} {d : DataW H} {ps : List MemPlace} (ht : P.underlying t = some (.slice e)) (he : P.underlying e = some (.slice q)) (hq : P.underlying q = some (.int .u8))
    (ce : P.cellsOf e = 1) (cq : P.cellsOf q = 1) (h : DataW.Trod enc P W 0 (fun _ => true) true t (.slice A n c) d ps) :
    ∃ l : List (List Int), l.length = n ∧ Rs [] W A l ∧ n ≤ c ∧ c ≤ 9223372036854775807 ∧ (A = none → c = 0) ∧ ∀ x ∈ l, x.length ≤ 9223372036854775807 ∧ ∀ y ∈ x, (Lit.int .u8 y).wf = true := by
  obtain ⟨fuel, hf⟩ := h
  rcases open_int_rows ht he hq ce cq hf with ⟨hcs, _⟩ | ⟨x, l, cp, B, L, C, Z, hcs, _, hl, hm, _, hr⟩
  · simp [Value.cells] at hcs
    obtain ⟨rfl, rfl, rfl⟩ := hcs
    exact ⟨[], rfl, fun j hj => absurd hj (by simp), Nat.le_refl _, by omega, fun _ => rfl, by simp⟩
  · simp [Value.cells] at hcs
    obtain ⟨rfl, rfl, rfl⟩ := hcs
    refine ⟨(List.range n).map fun j => (Z j).take (L j), by simp, ?_, hl, hm, by simp, ?_⟩
    · intro j hj
      have hjn : j < n := by simpa using hj
      obtain ⟨h1, h2, h3, h4, h5, h6, h7⟩ := hr j (by omega)
      have hlen : ((Z j).take (L j)).length = L j := by rw [List.length_take]; omega
      refine ⟨x, B j, C j, rfl, by simp, ?_, ?_, h6, ?_⟩
      · rw [h1]; simp [hlen]
      · simpa [hlen] using h2
      · intro i v hv
        have hv' : (iv .u8 ((Z j).take (L j)))[i]? = some v := by simpa using hv
        have hi : i < L j := by
          have := (List.getElem?_eq_some_iff.1 hv').1
          rw [iv_len, hlen] at this
          exact this
        cases hB : B j with
        | none => have := h6 hB; omega
        | some a' =>
          refine ⟨a', rfl, by simp, ?_⟩
          rw [(h7 a' hB).2 i (by omega), ← hv']
          simp [iv, hi, show i < (Z j).length by omega]
    · intro y hy
      obtain ⟨j, hj, rfl⟩ := List.mem_map.1 hy
      obtain ⟨h1, h2, h3, h4, h5, h6, h7⟩ := hr j (by have := List.mem_range.1 hj; omega)
      refine ⟨?_, fun z hz => h5 z (List.mem_of_mem_take hz)⟩
      rw [List.length_take]
      have h3' : C j ≤ 9223372036854775807 := h3
      omega

theorem sized_slice' {t e : TypeId} {A : Option Addr} {n c B j : Nat} {d : DataW H} {ps : List MemPlace} {ts : List TypeId} {ds : List (DataW H)}
    (hsz : (DataW.weightsEach P ts ds).all (· ≤ reachBytes) = true) (ht : ts[j]? = some t) (hd : ds[j]? = some d) (hu : P.underlying t = some (.slice e)) (hB : P.bytesOf e = B)
    (h : DataW.Trod enc P W 0 (fun _ => true) true t (.slice A n c) d ps) : n * B ≤ 140737488351232 := by
  obtain ⟨fuel, hf⟩ := h
  rcases open_slice hu hf with ⟨hcs, _⟩ | ⟨x, l, cp, m, k, D, Pl, hcs, _, hl, _, _, hx, _⟩
  · simp [Value.cells] at hcs
    obtain ⟨rfl, rfl, rfl⟩ := hcs
    simp
  · simp [Value.cells] at hcs
    obtain ⟨rfl, rfl, rfl⟩ := hcs
    obtain ⟨hx, _⟩ := Prod.mk.inj hx
    subst hx
    have z := sized_slice hsz ht hd hu
    rw [hB] at z
    simp only [List.length_map, List.length_range] at z
    exact Nat.le_trans (Nat.mul_le_mul_right _ (Nat.le_add_right _ _)) z
end

theorem wf_u8 {x : Int} (h : (Lit.int .u8 x).wf = true) : 0 ≤ x ∧ x < 256 := by
  have : 0 ≤ x ∧ x ≤ 255 := by simpa [Lit.wf, IntKind.min, IntKind.max, IntKind.signed, IntKind.bits] using h
  omega
theorem wf_i64 {x : Int} (h : (Lit.int .i64 x).wf = true) : -9223372036854775808 ≤ x ∧ x ≤ 9223372036854775807 := by
  simpa [Lit.wf, IntKind.min, IntKind.max, IntKind.signed, IntKind.bits] using h
theorem kp_of_chain {w w' : World} (h : Kp [] w w') : Below w.heap.size w w' := h.below

end Go.Proofs.YtdiljpdohmeceaaGreat.H

/- The walk of OpEncodes: any op as bytes, or refused; and back. -/
namespace Go.Proofs.YtdiljpdohmeceaaGreat.haystacklaw13
open Go.RowKit H O opk

theorem str_kb (s : ByteArray) : strOfNums (kb s) = s := kb_inj (kb_str (kb_wf s))
theorem dOpR_ob {k cl sq : Int} {key : ByteArray} {text : List Int} (he : opErr k cl sq key.size text.length = 0) : dOpR (opBytes k cl sq key text) = (k, cl, sq, key, text, 0) := by
  obtain ⟨⟨a1, a2⟩, ⟨b1, b2⟩, ⟨c1, c2⟩, d1, d2⟩ := ob_lim he
  have e := opBytes_eq k cl sq key text
  have q0 : stNum (some (opBytes k cl sq key text)) = (O.cl k, some (num cl ++ (num sq ++ (row (kb key) ++ (row text ++ []))))) := by rw [e]; exact stNum_num _ _
  have q1 := stNum_num cl (num sq ++ (row (kb key) ++ (row text ++ [])))
  have q2 := stNum_num sq (row (kb key) ++ (row text ++ []))
  have q3 := stBytes_row (kb key) (row text ++ []) (by rw [kb_len]; omega)
  have q4 := stBytes_row text [] (by omega)
  rw [dOpR_eq q0 q1 q2 q3 q4, cl_of a1 a2, cl_of b1 b2, cl_of c1 c2, kb_len, str_kb, if_pos ⟨rfl, he, rfl⟩]

/-- What either Encode hands back. -/
theorem enc_rd {k cl sq : Int} {key : ByteArray} {text X : List Int} {z : Int} {N : Nat} {w w' : World} {e : Ending} (h : EncPost k cl sq key text w e w') (hz : z = opErr k cl sq key.size text.length) (hX : X = if z = 0 then opBytes k cl sq key text else []) (hN : X.length = N) :
    ∃ A1 c1, e = .returned (.tuple #[.slice A1 N c1, .int .i64 z]) ∧ Rd w' A1 (iv .u8 X) ∧ Kp [] w w' ∧ N ≤ c1 ∧ (A1 = none → c1 = 0) := by
  obtain ⟨v, rfl, o, kk⟩ := h
  rw [← hz, ← hX] at o
  obtain ⟨A1, c1, rfl, h1, _, h3, h4⟩ := own_rd o.1
  rw [hN] at h1 ⊢
  rw [← hz]
  exact ⟨A1, c1, rfl, h3, kk, h1, h4⟩

end Go.Proofs.YtdiljpdohmeceaaGreat.haystacklaw13

/- Places: plain words; how they lie in memory. -/
namespace Go.Proofs.YtdiljpdohmeceaaGreat.opk
open Go.RowKit H O haystacklaw13

/-- places as values: a key and a number each -/
def mv (ms : List (ByteArray × Int)) : List Value := ms.flatMap fun m => [.string m.1, .int .i64 m.2]
theorem mv_nil : mv [] = [] := rfl
theorem mv_cons (m : ByteArray × Int) (ms : List (ByteArray × Int)) : mv (m :: ms) = .string m.1 :: .int .i64 m.2 :: mv ms := rfl
theorem mv_app (a b : List (ByteArray × Int)) : mv (a ++ b) = mv a ++ mv b := by simp [mv]
theorem mv_len (ms : List (ByteArray × Int)) : (mv ms).length = ms.length * 2 := by
  induction ms with
  | nil => rfl
  | cons m ms ih => rw [mv_cons, List.length_cons, List.length_cons, ih, List.length_cons]; omega
theorem mv_get : ∀ (ms : List (ByteArray × Int)) (i : Nat) (h : i < ms.length), (mv ms)[i * 2]? = some (.string ms[i].1) ∧ (mv ms)[i * 2 + 1]? = some (.int .i64 ms[i].2)
  | m :: ms, 0, _ => ⟨rfl, rfl⟩
  | m :: ms, i + 1, h => by
    have ih := mv_get ms i (by simpa using h)
    rw [mv_cons, show (i + 1) * 2 = i * 2 + 2 by omega]
    exact ⟨ih.1, ih.2⟩
theorem mv_one (ms : List (ByteArray × Int)) : ∀ u ∈ mv ms, u.oneCell' = true := by
  intro u hu
  obtain ⟨m, _, h⟩ := List.mem_flatMap.1 hu
  simp only [List.mem_cons, List.not_mem_nil, or_false] at h
  rcases h with rfl | rfl <;> rfl
/-- a place, read: its address written out -/
theorem mv_at {w : World} {A : Option Addr} {ms : List (ByteArray × Int)} (h : Rd w A (mv ms)) (i : Nat) (hi : i < ms.length) : ∃ b o, A = some ⟨b, o, none⟩ ∧ w.cell? ⟨b, o + i * 2, none⟩ = some (.string ms[i].1) ∧ w.cell? ⟨b, o + i * 2 + 1, none⟩ = some (.int .i64 ms[i].2) := by
  obtain ⟨g0, g1⟩ := mv_get ms i hi
  obtain ⟨a, ha, c0⟩ := h _ _ g0
  obtain ⟨a', ha', c1⟩ := h _ _ g1
  rw [ha] at ha'
  cases ha'
  obtain ⟨z, hz, cz⟩ := h 0 (.string ms[0].1) (by simpa using (mv_get ms 0 (by omega)).1)
  rw [ha] at hz
  cases hz
  obtain ⟨b, o, s⟩ := a
  obtain rfl : s = none := by simpa [Addr.add] using World.cell?_spot cz
  rw [Go.WideShapes.add_plain] at c0 c1
  exact ⟨b, o, ha, c0, by rw [Nat.add_assoc]; exact c1⟩

/-- places as bytes -/
def mRow (m : ByteArray × Int) : List Int := row (kb m.1) ++ num m.2
def mRows (ms : List (ByteArray × Int)) : List Int := ms.flatMap mRow
def mBytes (ms : List (ByteArray × Int)) : List Int := num (ms.length : Int) ++ mRows ms
theorem mRows_cons (m : ByteArray × Int) (ms : List (ByteArray × Int)) : mRows (m :: ms) = mRow m ++ mRows ms := rfl
theorem mRows_step (ms : List (ByteArray × Int)) (k : Nat) (h : k < ms.length) : mRows (ms.take (k + 1)) = mRows (ms.take k) ++ (row (kb ms[k].1) ++ num ms[k].2) := by
  rw [take_succ' ms k h, mRows, List.flatMap_append, List.flatMap_singleton]
  rfl
/-- how many bytes places have -/
def mSize (ms : List (ByteArray × Int)) : Nat := (ms.map fun m => 5 + m.1.size).sum
theorem mSize_step (ms : List (ByteArray × Int)) (k : Nat) (h : k < ms.length) : mSize (ms.take (k + 1)) = mSize (ms.take k) + 5 + ms[k].1.size := by
  rw [take_succ' ms k h, mSize, List.map_append, List.sum_append, List.map_singleton, List.sum_singleton, ← Nat.add_assoc]
  rfl
theorem mSize_le (ms : List (ByteArray × Int)) (k : Nat) : mSize (ms.take k) ≤ mSize ms := by
  have e : ms = ms.take k ++ ms.drop k := (List.take_append_drop k ms).symm
  conv => rhs; rw [e]
  simp only [mSize, List.map_append, List.sum_append]
  omega
theorem mSize_len (ms : List (ByteArray × Int)) : 5 * ms.length ≤ mSize ms := by
  induction ms with
  | nil => simp
  | cons m ms ih => simp only [mSize, List.map_cons, List.sum_cons, List.length_cons] at ih ⊢; omega
theorem mRows_len (ms : List (ByteArray × Int)) : (mRows ms).length ≤ 4 * mSize ms := by
  induction ms with
  | nil => simp [mRows]
  | cons m ms ih =>
    have h1 := row_len (kb m.1)
    have h2 := num_len m.2
    rw [kb_len] at h1
    simp only [mRows_cons, mRow, mSize, List.map_cons, List.sum_cons, List.length_append] at ih ⊢
    omega
theorem mRows_wf (ms : List (ByteArray × Int)) : Wf (mRows ms) := by
  intro x hx
  obtain ⟨m, _, h⟩ := List.mem_flatMap.1 hx
  rcases List.mem_append.1 h with h | h
  · exact row_u8 _ (kb_wf _) x h
  · exact num_u8 _ x h
theorem mBytes_wf (ms : List (ByteArray × Int)) : Wf (mBytes ms) := fun x hx => by
  rcases List.mem_append.1 hx with h | h
  · exact num_u8 _ x h
  · exact mRows_wf ms x h

/-- a place is taken -/
def mStep (s : Option (List Int)) : (ByteArray × Int) × Option (List Int) :=
  ((strOfNums (stBytes s).1, ((stNum (stBytes s).2).1 : Int)), if 1 ≤ (stBytes s).1.length ∧ (stBytes s).1.length ≤ 64 then (stNum (stBytes s).2).2 else none)
def mIter : Nat → Option (List Int) → List (ByteArray × Int) × Option (List Int)
  | 0, s => ([], s)
  | k + 1, s => ((mIter k s).1 ++ [(mStep (mIter k s).2).1], (mStep (mIter k s).2).2)
theorem mIter_len (k : Nat) (s : Option (List Int)) : (mIter k s).1.length = k := by
  induction k with
  | zero => rfl
  | succ k ih => simp [mIter, ih]
theorem mStep_none : (mStep none).2 = none := rfl
theorem mIter_stay {s : Option (List Int)} {k j : Nat} (h : (mIter k s).2 = none) (hj : k ≤ j) : (mIter j s).2 = none := by
  induction j with
  | zero => obtain rfl : k = 0 := by omega
            exact h
  | succ j ih =>
    by_cases e : k = j + 1
    · rw [← e]; exact h
    · show (mStep (mIter j s).2).2 = none
      rw [ih (by omega)]
      exact mStep_none
def dMs (xs : List Int) : List (ByteArray × Int) × Int :=
  match stNum (some xs) with
  | (n, s1) => if (mIter n s1).2 = some [] then ((mIter n s1).1, 0) else ([], 3)
theorem dMs_eq {xs : List Int} {n : Nat} {s1 : Option (List Int)} (h : stNum (some xs) = (n, s1)) : dMs xs = if (mIter n s1).2 = some [] then ((mIter n s1).1, 0) else ([], 3) := by
  simp only [dMs, h]
theorem stNum_short {s : Option (List Int)} {l : List Int} (h : (stNum s).2 = some l) : l.length < (left s).length := by
  cases s with
  | none => simp [stNum] at h
  | some r =>
    cases hd : dec r with
    | none => simp [stNum, hd] at h
    | some x =>
      obtain ⟨v, q⟩ := x
      obtain ⟨p, e, hp⟩ := dec_suffix hd
      simp only [stNum, hd, Option.some.injEq] at h
      subst h
      simp only [left, Option.getD_some]
      rw [e, List.length_append]
      have : 0 < p.length := List.length_pos_iff.2 hp
      omega
theorem mStep_short {s : Option (List Int)} {l : List Int} (h : (mStep s).2 = some l) : l.length < (left s).length := by
  unfold mStep at h
  simp only at h
  split at h
  · have h1 := stNum_short h
    have h2 := stBytes_left (s := s) (Nat.le_refl _)
    omega
  · cases h
/-- So many places have come at most. -/
theorem mIter_count {s : Option (List Int)} {k : Nat} {l : List Int} (h : (mIter k s).2 = some l) : k + l.length ≤ (left s).length := by
  induction k generalizing l with
  | zero => have : s = some l := h
            subst this
            simp [left]
  | succ k ih =>
    have h' : (mStep (mIter k s).2).2 = some l := h
    have h1 := mStep_short h'
    cases e : (mIter k s).2 with
    | none => rw [e] at h'; simp [mStep_none] at h'
    | some r =>
      have := ih e
      rw [e] at h1
      simp only [left, Option.getD_some] at h1
      omega
theorem mIter_left (k : Nat) (s : Option (List Int)) : (left (mIter k s).2).length ≤ (left s).length := by
  cases e : (mIter k s).2 with
  | none => simp [left]
  | some l => have := mIter_count e; simp only [left, Option.getD_some]; simp only [left] at this; omega
theorem mStep_row {m : ByteArray × Int} {r : List Int} (hk : 1 ≤ m.1.size ∧ m.1.size ≤ 64) (hm : 0 ≤ m.2 ∧ m.2 ≤ 4611686018427387904) : mStep (some (mRow m ++ r)) = (m, some r) := by
  have h1 : stBytes (some (mRow m ++ r)) = (kb m.1, some (num m.2 ++ r)) := by
    rw [mRow, List.append_assoc]
    exact stBytes_row _ _ (by rw [kb_len]; omega)
  unfold mStep
  simp only [h1, stNum_num, kb_len, if_pos hk, cl_of hm.1 hm.2, str_kb]
end Go.Proofs.YtdiljpdohmeceaaGreat.opk

/- op.Matches. -/
namespace Go.Proofs.YtdiljpdohmeceaaGreat.opk
open Go.RowKit H O haystacklaw13

/-- A place's block. -/
def PlAt (w : World) (b : Nat) (key : ByteArray) (x : Int) : Prop := w.heap[b]? = some (.cells #[.string key, .int .i64 x] 73)
theorem PlAt.cells {w : World} {b : Nat} {key : ByteArray} {x : Int} (h : PlAt w b key x) : w.cell? ⟨b, 0, none⟩ = some (.string key) ∧ w.cell? ⟨b, 1, none⟩ = some (.int .i64 x) := ⟨blk_cell h 0 rfl, blk_cell h 1 rfl⟩
theorem PlAt.new (w : World) (key : ByteArray) (x : Int) : PlAt (w.alloc (.cells #[.string key, .int .i64 x] 73)) w.heap.size key x := heap_alloc_new w _
theorem PlAt.kp {S : List Nat} {w w1 : World} {b : Nat} {key : ByteArray} {x : Int} (h : PlAt w b key x) (hk : Kp S w w1) (hb : b ∉ S) : PlAt w1 b key x := hk.blk h hb
theorem PlAt.free {w : World} {b : Nat} {key : ByteArray} {x : Int} (h : PlAt w b key x) (j : Nat) : w.frozen? ⟨b, j, none⟩ = false := blk_free h j

/-- A Writer of the call's own has laid ys. -/
structure MW (w : World) (b : Nat) (ys : List Int) (wr : World) : Prop where
  lo : w.heap.size ≤ b
  kp : Kp [] w wr
  wr : ∃ g, writer.Wr wr b g ys ∧ ∀ x, g = some x → w.heap.size ≤ x
theorem MW.lt {w wr : World} {b : Nat} {ys : List Int} (h : MW w b ys wr) : b < wr.heap.size := by
  obtain ⟨g, h1, _⟩ := h.wr
  exact h1.lt.1
theorem MW.new (w : World) : MW w w.heap.size [] (w.alloc (.cells #[.slice none 0 0] 177)) :=
  ⟨Nat.le_refl _, (Kp.refl [] w).alloc _, none, writer.Wr.new w, by simp⟩
theorem MW.keep {w wr w1 : World} {b : Nat} {ys : List Int} (h : MW w b ys wr) (k : Kp [] wr w1) : MW w b ys w1 := by
  obtain ⟨g, h1, h2⟩ := h.wr
  exact ⟨h.lo, h.kp.trans k (by simp), g, h1.kp k (by simp) (by simp), h2⟩
theorem MW.next {w wr w1 : World} {b : Nat} {ys zs : List Int} {g g' : Option Nat} (h : MW w b ys wr) (hg : ∀ x, g = some x → w.heap.size ≤ x) (W : writer.Wr w1 b g' zs) (A : At wr.heap.size g g') (k : Kp (b :: g.toList) wr w1) : MW w b zs w1 := by
  refine ⟨h.lo, h.kp.trans k ?_, g', W, A.ge h.kp.size hg⟩
  intro x hx
  rcases List.mem_cons.1 hx with rfl | hx
  · exact .inr h.lo
  · exact .inr (hg x (by simpa using hx))
/-- A number on the Writer. -/
theorem mat_num {w wr : World} {b : Nat} {ys : List Int} (h : MW w b ys wr) (x : Int) (hy : ys.length ≤ 1000000) :
    Calls Tryz.prog 105 #[.pointer (some ⟨b, 0, none⟩), .slice (some ⟨wr.heap.size, 0, none⟩) 1 1] (wr.alloc (.cells #[.int .i64 x] 3)) fun e w' => e = .returned (.tuple #[]) ∧ MW w b (ys ++ num x) w' := by
  obtain ⟨g, h1, h2⟩ := h.wr
  have hl := h1.lt
  refine (writer.nums_any b g ys (some ⟨wr.heap.size, 0, none⟩) 1 1 [x] _ (h1.kp ((Kp.refl [] wr).alloc _) (by simp) (by simp)) rfl (RdS.lit wr [.int .i64 x] _ ?_) (by omega)).mono ?_
  · intro z hz
    rcases List.mem_cons.1 hz with rfl | hz
    · exact hl.1
    · exact hl.2 z (by simpa using hz)
  · rintro e w' ⟨rfl, g', W, A, K⟩
    refine ⟨rfl, (h.keep ((Kp.refl [] wr).alloc _)).next h2 ?_ A K⟩
    rwa [nums_one] at W
/-- A key on the Writer; the place stays. -/
theorem mat_key {w wr : World} {b : Nat} {ys : List Int} (h : MW w b ys wr) (key : ByteArray) (x : Int) (m : Nat) (hkm : key.size = m) (hm : m ≤ 1000000) (hy : ys.length ≤ 1000000) :
    Calls Tryz.prog 106 #[.pointer (some ⟨b, 0, none⟩), .slice (some ⟨wr.heap.size + 1 + 1, 0, none⟩) 1 1]
      ((Lib.bytesWorld (wr.alloc (.cells #[.string key, .int .i64 x] 73)) 5 key).alloc (.cells #[.slice (some ⟨wr.heap.size + 1, 0, none⟩) m (grownCap (wr.alloc (.cells #[.string key, .int .i64 x] 73)) m 0 5)] 24)) fun e w' => e = .returned (.tuple #[]) ∧ MW w b (ys ++ row (kb key)) w' ∧ PlAt w' wr.heap.size key x ∧ wr.heap.size < w'.heap.size := by
  obtain ⟨g, h1, h2⟩ := h.wr
  have hl := h1.lt
  obtain ⟨w3, hw3⟩ : ∃ w3, w3 = wr.alloc (.cells #[.string key, .int .i64 x] 73) := ⟨_, rfl⟩
  have hs3 : w3.heap.size = wr.heap.size + 1 := by rw [hw3, World.size_alloc]
  have P3 : PlAt w3 wr.heap.size key x := by rw [hw3]; exact PlAt.new wr key x
  have k3 : Kp [] wr w3 := by rw [hw3]; exact (Kp.refl [] wr).alloc _
  rw [← hw3, ← hs3]
  have hsz := Lib.bytesWorld_size w3 5 key
  have kB := kp_bytes (Kp.refl [] w3) 5 key
  have hS : ∀ x ∈ b :: g.toList, x < wr.heap.size := by
    intro x hx
    rcases List.mem_cons.1 hx with rfl | hx
    · exact hl.1
    · exact hl.2 x (by simpa using hx)
  have hrk := rds_bytes (S := b :: g.toList) w3 5 key (fun x hx => by have := hS x hx; omega)
  obtain ⟨w4, hw4⟩ : ∃ w4, w4 = Lib.bytesWorld w3 5 key := ⟨_, rfl⟩
  rw [← hw4] at hsz kB hrk ⊢
  have hrs := rs_cell (S := b :: g.toList) w4 (some ⟨w3.heap.size, 0, none⟩) (kb key) m (grownCap w3 m 0 5) (by rw [kb_len, hkm]) (grownCap_ge _ _ _ _) (by simp) 24 hrk (fun x hx => by have := hS x hx; omega)
  rw [hsz] at hrs
  have k4 : Kp [] wr (w4.alloc (.cells #[.slice (some ⟨w3.heap.size, 0, none⟩) m (grownCap w3 m 0 5)] 24)) := (k3.trans kB (by simp)).alloc _
  refine (writer.bytes_any b g ys (some ⟨w3.heap.size + 1, 0, none⟩) 1 1 [kb key] _ (h1.kp k4 (by simp) (by simp)) rfl hrs (by simp [kb_len, hkm]; omega)).mono ?_
  rintro e w5 ⟨rfl, g5, W5, A5, K5⟩
  have e1 : rows [kb key] = row (kb key) := by simp [rows]
  rw [e1] at W5
  refine ⟨rfl, (h.keep k4).next h2 W5 A5 K5, ?_, ?_⟩
  · refine ((P3.kp kB (by simp)).kp ((Kp.refl [] w4).alloc _) (by simp)).kp K5 ?_
    intro hm
    have := hS _ hm
    omega
  · have := K5.size
    rw [World.size_alloc] at this
    omega
/-- and out -/
theorem mat_out {w wr : World} {b : Nat} {ys : List Int} (h : MW w b ys wr) (hy : ys.length ≤ 10000000) :
    Calls Tryz.prog 107 #[.pointer (some ⟨b, 0, none⟩)] wr (fun e w' => ∃ v, e = .returned v ∧ Own 5 .u8 w' w.heap.size v ys ∧ Kp [] w w') := by
  obtain ⟨g, h1, h2⟩ := h.wr
  refine (writer.out_any b g ys wr h1 (by omega)).mono ?_
  rintro e w6 ⟨v, rfl, O6, K6⟩
  exact ⟨v, rfl, O6.lower h.kp.size, h.kp.trans K6 (by simp)⟩

end Go.Proofs.YtdiljpdohmeceaaGreat.opk

/- wire.framed, wire.within, (Request).may, wire.Encode. -/
namespace Go.Proofs.YtdiljpdohmeceaaGreat.wir
open Go.RowKit H O opk frame

/-- one byte on the Writer, out of a literal -/
theorem wr_byte {w wr : World} {b : Nat} {ys : List Int} (h : MW w b ys wr) (x : Int) (hy : ys.length ≤ 1000000) :
    Calls Tryz.prog 126 #[.pointer (some ⟨b, 0, none⟩), .slice (some ⟨wr.heap.size, 0, none⟩) 1 1] (wr.alloc (.cells #[.int .u8 x] 5)) fun e w' => e = .returned (.tuple #[]) ∧ MW w b (ys ++ [x]) w' := by
  obtain ⟨g, h1, h2⟩ := h.wr
  refine (writer.raw_any b g ys (some ⟨wr.heap.size, 0, none⟩) 1 1 [x] _ (h1.kp ((Kp.refl [] wr).alloc _) (by simp) (by simp)) rfl (rd_new wr _ _) (by simp) (by omega)).mono ?_
  rintro e w' ⟨rfl, g', W, A, K⟩
  exact ⟨rfl, (h.keep ((Kp.refl [] wr).alloc _)).next h2 W A K⟩
/-- bytes that were there before the Writer, with their length -/
theorem wr_row {w wr : World} {b : Nat} {ys : List Int} (h : MW w b ys wr) (A : Option Addr) (n c : Nat) (xs : List Int) (hn : xs.length = n) (hr : Rd w A (iv .u8 xs)) (hc : n ≤ c) (hnil : A = none → c = 0) (hy : ys.length ≤ 1000000) (hm : n ≤ 1000000) :
    Calls Tryz.prog 106 #[.pointer (some ⟨b, 0, none⟩), .slice (some ⟨wr.heap.size, 0, none⟩) 1 1] (wr.alloc (.cells #[.slice A n c] 24)) fun e w' => e = .returned (.tuple #[]) ∧ MW w b (ys ++ row xs) w' := by
  obtain ⟨g, h1, h2⟩ := h.wr
  have hl := h1.lt
  have hS : ∀ x ∈ b :: g.toList, w.heap.size ≤ x ∧ x < wr.heap.size := by
    intro x hx
    rcases List.mem_cons.1 hx with rfl | hx
    · exact ⟨h.lo, hl.1⟩
    · exact ⟨h2 x (by simpa using hx), hl.2 x (by simpa using hx)⟩
  have hrs := rs_cell (S := b :: g.toList) wr A xs n c hn hc hnil 24 (RdS.new hr h.kp (fun x hx => (hS x hx).1)) (fun x hx => (hS x hx).2)
  refine (writer.bytes_any b g ys (some ⟨wr.heap.size, 0, none⟩) 1 1 [xs] _ (h1.kp ((Kp.refl [] wr).alloc _) (by simp) (by simp)) rfl hrs (by simp; omega)).mono ?_
  rintro e w' ⟨rfl, g', W, A, K⟩
  rw [show rows [xs] = row xs from by simp [rows]] at W
  exact ⟨rfl, (h.keep ((Kp.refl [] wr).alloc _)).next h2 W A K⟩
/-- numbers on the Writer, whose slice was there before it -/
theorem wr_nums {w wr : World} {b : Nat} {ys : List Int} (h : MW w b ys wr) (A : Option Addr) (n c : Nat) (vs : List Int) (hn : vs.length = n) (hr : Rd w A (iv .i64 vs)) (hy : ys.length ≤ 1000000) (hm : n ≤ 1000000) :
    Calls Tryz.prog 105 #[.pointer (some ⟨b, 0, none⟩), .slice A n c] wr fun e w' => e = .returned (.tuple #[]) ∧ MW w b (ys ++ nums vs) w' := by
  obtain ⟨g, h1, h2⟩ := h.wr
  have hS : ∀ x ∈ b :: g.toList, w.heap.size ≤ x := by
    intro x hx
    rcases List.mem_cons.1 hx with rfl | hx
    · exact h.lo
    · exact h2 x (by simpa using hx)
  refine (writer.nums_any b g ys A n c vs wr h1 hn (RdS.new hr h.kp hS) (by omega)).mono ?_
  rintro e w' ⟨rfl, g', W, A, K⟩
  exact ⟨rfl, h.next h2 W A K⟩

/-- a request's, a reply's payload -/
def pay (mark : Int) (vs xs : List Int) : List Int := ([] ++ [mark] ++ nums vs) ++ row xs
theorem pay_len (mark : Int) (vs xs : List Int) (h : vs.length ≤ 3) : (pay mark vs xs).length ≤ 100 + xs.length := by
  have h1 := nums_len vs
  have h2 := num_len (xs.length : Int)
  simp only [pay, row, List.length_append, List.length_nil, List.length_singleton]
  omega
theorem pay_wf {mark : Int} {vs xs : List Int} (hm : 0 ≤ mark ∧ mark < 256) (hw : Wf xs) : Wf (pay mark vs xs) := by
  intro x hx
  rcases List.mem_append.1 hx with h | h
  · rcases List.mem_append.1 h with h | h
    · simp at h; omega
    · exact nums_u8 _ x h
  · rcases List.mem_append.1 h with h | h
    · exact num_u8 _ x h
    · exact hw x h

set_option maxHeartbeats 4000000 in
set_option maxRecDepth 100000 in
theorem framed_any (mark : Int) (A : Option Addr) (n c : Nat) (xs : List Int) (B : Option Addr) (m d : Nat) (vs : List Int) (w : World) (hmk : 0 ≤ mark ∧ mark < 256) (hn : xs.length = n) (hr : Rd w A (iv .u8 xs)) (hc : n ≤ c) (hnil : A = none → c = 0) (hw : Wf xs) (hm : vs.length = m) (hb : Rd w B (iv .i64 vs)) (hn9 : n ≤ 600000) (hm9 : m ≤ 3) :
    Calls Tryz.prog 111 #[.int .u8 mark, .slice A n c, .slice B m d] w (FEnc (pay mark vs xs) w) := by
  obtain ⟨p, hp⟩ : ∃ p, pay mark vs xs = p := ⟨_, rfl⟩
  obtain ⟨L, hL⟩ : ∃ L, p.length = L := ⟨_, rfl⟩
  have hL9 : L ≤ 600100 := by have := pay_len mark vs xs (by omega); rw [← hL, ← hp]; omega
  have hpw : Wf p := by rw [← hp]; exact pay_wf hmk hw
  have hl1 := nums_len vs
  have H1 : As (Calls Tryz.prog 126 #[.pointer (some ⟨w.heap.size, 0, none⟩), .slice (some ⟨w.heap.size + 1, 0, none⟩) 1 1] ((w.alloc (.cells #[.slice none 0 0] 177)).alloc (.cells #[.int .u8 mark] 5)) fun e w' => e = .returned (.tuple #[]) ∧ MW w w.heap.size ([] ++ [mark]) w') := ⟨by
    have := wr_byte (MW.new w) mark (by simp)
    rw [World.size_alloc] at this
    exact this⟩
  have H2 : As (∀ w1, MW w w.heap.size ([] ++ [mark]) w1 → Calls Tryz.prog 105 #[.pointer (some ⟨w.heap.size, 0, none⟩), .slice B m d] w1 fun e w' => e = .returned (.tuple #[]) ∧ MW w w.heap.size ([] ++ [mark] ++ nums vs) w') := ⟨fun w1 h1 => wr_nums h1 B m d vs hm hb (by simp) (by omega)⟩
  have H3 : As (∀ w1, MW w w.heap.size ([] ++ [mark] ++ nums vs) w1 → Calls Tryz.prog 106 #[.pointer (some ⟨w.heap.size, 0, none⟩), .slice (some ⟨w1.heap.size, 0, none⟩) 1 1] (w1.alloc (.cells #[.slice A n c] 24)) fun e w' => e = .returned (.tuple #[]) ∧ MW w w.heap.size p w') := ⟨fun w1 h1 => by
    have := wr_row h1 A n c xs hn hr hc hnil (by simp only [List.length_append, List.length_nil, List.length_singleton]; omega) (by omega)
    rw [show ([] ++ [mark] ++ nums vs) ++ row xs = p from hp] at this
    exact this⟩
  have H4 : As (∀ w2, MW w w.heap.size p w2 → Calls Tryz.prog 107 #[.pointer (some ⟨w.heap.size, 0, none⟩)] w2 (fun e w' => ∃ A2 c2, e = .returned (.slice A2 L c2) ∧ Rd w' A2 (iv .u8 p) ∧ L ≤ c2 ∧ (A2 = none → c2 = 0) ∧ Kp [] w w')) := ⟨fun w2 h2 => by
    refine (mat_out h2 (by omega)).mono ?_
    rintro e w' ⟨v, rfl, o, k⟩
    obtain ⟨A2, c2, rfl, h1, _, r, h3⟩ := own_rd o.1
    rw [hL] at h1 ⊢
    exact ⟨A2, c2, rfl, r, h1, h3, k⟩⟩
  have H5 : As (∀ w3 A2 c2, Rd w3 A2 (iv .u8 p) → L ≤ c2 → (A2 = none → c2 = 0) → Kp [] w w3 → Calls Tryz.prog 127 #[.slice (some ⟨w3.heap.size, 0, none⟩) 1 1] (w3.alloc (.cells #[.slice A2 L c2] 24)) (fun e w' => ∃ A c, e = .returned (.tuple #[.slice A (L + 12) c, .int .i64 0]) ∧ As (FEnc p w (.returned (.tuple #[.slice A (L + 12) c, .int .i64 0])) w'))) := ⟨fun w3 A2 c2 r h1 h2 k => by
    have hrs := rs_cell (S := []) w3 A2 p L c2 hL h1 h2 24 (RdS.new r (Kp.refl _ _) (by simp)) (by simp)
    have := enc_any (some ⟨w3.heap.size, 0, none⟩) 1 1 [p] _ rfl hrs (Nat.le_refl _) (by intro x hx; simp only [List.mem_singleton] at hx; subst hx; exact hpw) (by simp; omega) (by omega)
    rw [show [p].flatten = p from by simp] at this
    refine this.mono ?_
    rintro e w' ⟨A, c, rfl, k2, j, r2, h3, h4, h5⟩
    rw [hL] at j h3 ⊢
    have kA : Kp [] w (w3.alloc (.cells #[.slice A2 L c2] 24)) := k.alloc _
    refine ⟨A, c, rfl, ⟨A, c, ?_, kA.trans k2 (by simp), ?_, r2, ?_, h4, h5⟩⟩
    · rw [hL]
    · rw [hL]; exact j.lower kA.size
    · rw [hL]; exact h3⟩
  rw [hp]
  clear hp hL hpw hn hr hb hm hw
  go_enter Tryz.func111, Tryz.ntmps111
  go_wp2_with (first
    | (go_at_call 126; refine H1.out.mono ?_; rintro e w1 ⟨rfl, m1⟩; have HM1 := As.mk (H2.out w1 m1); clear m1 H1 H2)
    | (go_at_call 105; refine HM1.out.mono ?_; rintro e w2 ⟨rfl, m2⟩; have HM2 := As.mk (H3.out w2 m2); clear m2 H3 HM1)
    | (go_at_call 106; refine HM2.out.mono ?_; rintro e w3 ⟨rfl, m3⟩; have HM3 := As.mk (H4.out w3 m3); clear m3 H4 HM2)
    | (go_at_call 107; refine HM3.out.mono ?_; rintro e w4 ⟨A2, c2, rfl, r2, h1, h2, k4⟩; have HM4 := As.mk (H5.out w4 A2 c2 r2 h1 h2 k4); clear r2 h1 h2 k4 H5 HM3)
    | (go_at_call 127; refine HM4.out.mono ?_; rintro e w5 ⟨A5, c5, rfl, HE⟩; clear HM4))
  go_ret2
  exact HE.out
theorem ret_bool {a b : Bool} (h : a = b) : Ending.returned (.bool a) = .returned (.bool b) := by rw [h]
theorem within_any (n a m : Int) (w : World) : Calls Tryz.prog 116 #[.int .i64 n, .int .i64 a, .int .i64 m] w fun e w' => e = .returned (.bool (decide (a ≤ n ∧ n ≤ m))) ∧ w' = w := by
  go_enter Tryz.func116, Tryz.ntmps116
  by_cases h1 : a ≤ n
  · by_cases h2 : n ≤ m
    · go_wp2
      go_ret
      exact ⟨ret_bool (decide_eq_true (by omega)).symm, rfl⟩
    · go_wp2
      go_ret
      exact ⟨ret_bool (decide_eq_false (by omega)).symm, rfl⟩
  · go_wp2
    go_ret
    exact ⟨ret_bool (by simp; omega), rfl⟩

/-- may a request be? -/
def rqOk (k c s : Int) : Bool := decide (1 ≤ k ∧ k ≤ 4) && decide (0 ≤ c ∧ c ≤ 1099511627776) && decide (0 ≤ s ∧ s ≤ 255)
set_option maxHeartbeats 4000000 in
set_option maxRecDepth 100000 in
theorem rmay_any (k c s : Int) (v : Value) (w : World) : Calls Tryz.prog 110 #[.agg #[.int .i64 k, .int .i64 c, .int .i64 s, v]] w fun e w' => e = .returned (.bool (rqOk k c s)) ∧ Kp [] w w' := by
  have hbX := heap_alloc_new w (.cells #[.int .i64 k, .int .i64 c, .int .i64 s, v] 99)
  have HK : As (Kp [] w (w.alloc (.cells #[.int .i64 k, .int .i64 c, .int .i64 s, v] 99))) := ⟨(Kp.refl [] w).alloc _⟩
  have x0 := blk_cell hbX 0 rfl
  have x1 := blk_cell hbX 1 rfl
  have x2 := blk_cell hbX 2 rfl
  obtain ⟨b0, hb0⟩ : ∃ b, decide (1 ≤ k ∧ k ≤ 4) = b := ⟨_, rfl⟩
  obtain ⟨b1, hb1⟩ : ∃ b, decide (0 ≤ c ∧ c ≤ 1099511627776) = b := ⟨_, rfl⟩
  obtain ⟨b2, hb2⟩ : ∃ b, decide (0 ≤ s ∧ s ≤ 255) = b := ⟨_, rfl⟩
  have H0 := As.mk (fun wX => within_any k 1 4 wX)
  have H1 := As.mk (fun wX => within_any c 0 1099511627776 wX)
  have H2 := As.mk (fun wX => within_any s 0 255 wX)
  rw [hb0] at H0
  rw [hb1] at H1
  rw [hb2] at H2
  have HF : As (rqOk k c s = (b0 && b1 && b2)) := ⟨by rw [rqOk, hb0, hb1, hb2]⟩
  clear hbX hb0 hb1 hb2
  go_enter Tryz.func110, Tryz.ntmps110
  cases b0 <;> cases b1 <;> cases b2
  all_goals go_wp2_with (first
    | (go_at_call 116; refine (H0.out _).mono ?_; rintro e w1 ⟨rfl, rfl⟩; clear H0)
    | (go_at_call 116; refine (H1.out _).mono ?_; rintro e w2 ⟨rfl, rfl⟩; clear H1)
    | (go_at_call 116; refine (H2.out _).mono ?_; rintro e w3 ⟨rfl, rfl⟩; clear H2))
  all_goals go_ret
  all_goals exact ⟨ret_bool (by rw [HF.out]; rfl), HK.out⟩

/-- behind Encode: refused (1), or the record -/
def EncPost (k c s : Int) (xs : List Int) (w : World) (e : Ending) (w' : World) : Prop :=
  (rqOk k c s = false ∧ e = .returned (.tuple #[.slice none 0 0, .int .i64 1]) ∧ Kp [] w w') ∨ (rqOk k c s = true ∧ FEnc (pay 113 [k, c, s] xs) w e w')
set_option maxHeartbeats 4000000 in
set_option maxRecDepth 100000 in
theorem encode_any (k c s : Int) (A : Option Addr) (n cp : Nat) (xs : List Int) (w : World) (hn : xs.length = n) (hr : Rd w A (iv .u8 xs)) (hc : n ≤ cp) (hnil : A = none → cp = 0) (hw : Wf xs) (hn9 : n ≤ 8192) :
    Calls Tryz.prog 76 #[.agg #[.int .i64 k, .int .i64 c, .int .i64 s, .slice A n cp]] w (EncPost k c s xs w) := by
  have hbX := heap_alloc_new w (.cells #[.int .i64 k, .int .i64 c, .int .i64 s, .slice A n cp] 99)
  obtain ⟨w1, hw1⟩ : ∃ w1, w.alloc (.cells #[.int .i64 k, .int .i64 c, .int .i64 s, .slice A n cp] 99) = w1 := ⟨_, rfl⟩
  rw [hw1] at hbX
  have HBX := As.mk hbX
  have HK1 : As (Kp [] w w1) := ⟨by rw [← hw1]; exact (Kp.refl [] w).alloc _⟩
  have HMY := As.mk (rmay_any k c s (.slice A n cp) w1)
  obtain ⟨ok, hok⟩ : ∃ b, rqOk k c s = b := ⟨_, rfl⟩
  rw [hok] at HMY
  have HOK := As.mk hok
  obtain ⟨p, hp⟩ : ∃ p, pay 113 [k, c, s] xs = p := ⟨_, rfl⟩
  have HP := As.mk hp
  obtain ⟨L, hL⟩ : ∃ L, p.length = L := ⟨_, rfl⟩
  have HL := As.mk hL
  have HFR : As (∀ w2, Kp [] w w2 → Calls Tryz.prog 111 #[.int .u8 113, .slice A n cp, .slice (some ⟨w2.heap.size, 0, none⟩) 3 3] (w2.alloc (.cells #[.int .i64 k, .int .i64 c, .int .i64 s] 3)) (fun e w' => ∃ A c, e = .returned (.tuple #[.slice A (L + 12) c, .int .i64 0]) ∧ As (FEnc p w (.returned (.tuple #[.slice A (L + 12) c, .int .i64 0])) w'))) := ⟨fun w2 k2 => by
    have kA : Kp [] w2 (w2.alloc (.cells #[.int .i64 k, .int .i64 c, .int .i64 s] 3)) := (Kp.refl [] w2).alloc _
    refine (framed_any 113 A n cp xs (some ⟨w2.heap.size, 0, none⟩) 3 3 [k, c, s] _ (by omega) hn ((k2.trans kA (by simp)).rd_new hr (by simp)) hc hnil hw rfl (rd_new w2 _ _) (by omega) (by omega)).mono ?_
    rw [hp]
    rintro e w' ⟨A, c, rfl, k3, j, r2, h3, h4, h5⟩
    rw [hL] at j h3 ⊢
    have kB := k2.trans kA (by simp)
    refine ⟨A, c, rfl, ⟨A, c, ?_, kB.trans k3 (by simp), ?_, r2, ?_, h4, h5⟩⟩
    · rw [hL]
    · rw [hL]; exact j.lower kB.size
    · rw [hL]; exact h3⟩
  have x0 := blk_cell hbX 0 rfl
  have x1 := blk_cell hbX 1 rfl
  have x2 := blk_cell hbX 2 rfl
  have x3 := blk_cell hbX 3 rfl
  unfold EncPost
  rw [hp, hok]
  clear hbX hn hr hw hok hp hL
  go_enter Tryz.func76, Tryz.ntmps76
  go_upto_region 1 with fail
  clear hw1
  cases ok
  · go_wp2_with (go_at_call 110; refine HMY.out.mono ?_; rintro e w2 ⟨rfl, k2⟩; have HK2 : As (Kp [] w w2) := ⟨HK1.out.trans k2 (by simp)⟩; clear k2 HMY)
    go_ret2
    exact ⟨rfl, HK2.out⟩
  · go_wp2_with (first
      | (go_at_call 110; refine HMY.out.mono ?_; rintro e w2 ⟨rfl, k2⟩; have HK2 : As (Kp [] w w2) := ⟨HK1.out.trans k2 (by simp)⟩; have y0 := k2.cell x0 (by simp); have y1 := k2.cell x1 (by simp); have y2 := k2.cell x2 (by simp); have y3 := k2.cell x3 (by simp); have HF2 := As.mk (HFR.out w2 HK2.out); clear k2 HMY HFR)
      | (go_at_call 111; refine HF2.out.mono ?_; rintro e w3 ⟨A3, c3, rfl, HE⟩; clear HF2))
    go_ret2
    exact HE.out
end Go.Proofs.YtdiljpdohmeceaaGreat.wir

/- Slices of rows of numbers: what they read, what is a call's own; slices.Clone of both. -/
namespace Go.Proofs.YtdiljpdohmeceaaGreat.H
open Go.RowKit

/-- A slice of rows of numbers, none of it in the blocks S. -/
def Ri (S : List Nat) (w : World) (A : Option Addr) (l : List (List Int)) : Prop :=
  ∀ j (h : j < l.length), ∃ a Aj cj, A = some a ∧ a.block ∉ S ∧ w.cell? (a.add j) = some (.slice Aj l[j].length cj) ∧ l[j].length ≤ cj ∧ (Aj = none → cj = 0) ∧ RdS S w Aj (iv .i64 l[j])
theorem RdS.kp2 {S S2 T : List Nat} {w w1 : World} {A : Option Addr} {vs : List Value} (h : RdS S w A vs) (k : Kp T w w1) (hT : ∀ x ∈ T, x ∈ S ∨ w.heap.size ≤ x) (hS : ∀ x ∈ S2, x ∈ S ∨ w.heap.size ≤ x) : RdS S2 w1 A vs := by
  intro j v hv
  obtain ⟨a, rfl, h1, h2⟩ := h j v hv
  have hl := World.block_lt_of_cell? w _ h2
  rw [add_block] at hl
  refine ⟨a, rfl, fun hm => ?_, k.cell h2 (by rw [add_block]; intro hm; rcases hT _ hm with h | h; exact h1 h; omega)⟩
  rcases hS _ hm with h | h
  · exact h1 h
  · omega
theorem Ri.kp {S S2 T : List Nat} {w w1 : World} {A : Option Addr} {l : List (List Int)} (h : Ri S w A l) (k : Kp T w w1) (hT : ∀ x ∈ T, x ∈ S ∨ w.heap.size ≤ x) (hS : ∀ x ∈ S2, x ∈ S ∨ w.heap.size ≤ x) : Ri S2 w1 A l := by
  intro j hj
  obtain ⟨a, Aj, cj, rfl, h0, hc, h1, h2, h3⟩ := h j hj
  have hl := World.block_lt_of_cell? w _ hc
  rw [add_block] at hl
  refine ⟨a, Aj, cj, rfl, fun hm => ?_, k.cell hc (by rw [add_block]; intro hm; rcases hT _ hm with h | h; exact h0 h; omega), h1, h2, h3.kp2 k hT hS⟩
  rcases hS _ hm with h | h
  · exact h0 h
  · omega
theorem Ri.new {S : List Nat} {w w1 : World} {A : Option Addr} {l : List (List Int)} (h : Ri [] w A l) (k : Kp [] w w1) (hS : ∀ x ∈ S, w.heap.size ≤ x) : Ri S w1 A l :=
  h.kp k (by simp) (fun x hx => .inr (hS x hx))
theorem Ri.sub {S S2 : List Nat} {w : World} {A : Option Addr} {l : List (List Int)} (h : Ri S w A l) (hS : ∀ x ∈ S2, x ∈ S) : Ri S2 w A l :=
  h.kp (Kp.refl [] w) (by simp) (fun x hx => .inl (hS x hx))
theorem Ri.nil (S : List Nat) (w : World) (A : Option Addr) : Ri S w A [] := fun j h => by simp at h

theorem info_row : (Tryz.prog.info? 53).map (fun i => (i.zero, i.size, i.bytes)) = some (some (.slice none 0 0), 1, 24) := by kernel_rfl
theorem info_int : (Tryz.prog.info? 3).map (fun i => (i.zero, i.size, i.bytes)) = some (some (.int .i64 0), 1, 8) := by kernel_rfl

/-- A row of rows of numbers, all of it the call's own; its rows lie in none of the blocks S. -/
def OwnL (S : List Nat) (w : World) (lo : Nat) (v : Value) (l : List (List Int)) : Prop :=
  ∃ vs, w.ownsRow 0 53 1 v l.length vs ∧ (∀ g, v.ownBlock = some g → lo ≤ g) ∧
    ∀ j (_ : j < l.length), ∃ u, vs[j]? = some u ∧ Own 3 .i64 w lo u l[j] ∧ ∀ k, u.ownBlock = some k → k ∉ S ∧ v.ownBlock ≠ some k
theorem OwnL.nil (S : List Nat) (w : World) (lo : Nat) : OwnL S w lo (.slice none 0 0) [] := ⟨[], World.ownsRow_nil w 0 _ 1, by intro g hg; simp [Value.ownBlock] at hg, fun j h => by simp at h⟩
theorem OwnL.lower {S : List Nat} {w : World} {lo lo' : Nat} {v : Value} {l : List (List Int)} (h : OwnL S w lo v l) (hl : lo' ≤ lo) : OwnL S w lo' v l := by
  obtain ⟨vs, h1, h2, h3⟩ := h
  refine ⟨vs, h1, fun g hg => Nat.le_trans hl (h2 g hg), fun j hj => ?_⟩
  obtain ⟨u, hu, ho, hk⟩ := h3 j hj
  exact ⟨u, hu, ho.lower hl, hk⟩
/-- a row of a call's own lies below the world's end -/
theorem Own.lt {e : TypeId} {k : IntKind} {w : World} {lo : Nat} {v : Value} {xs : List Int} (h : Own e k w lo v xs) {g : Nat} (hg : v.ownBlock = some g) : lo ≤ g ∧ g < w.heap.size := ⟨h.2 g hg, own_lt h.1 g hg⟩
theorem OwnL.kp {S S2 T : List Nat} {w w1 : World} {lo : Nat} {v : Value} {l : List (List Int)} (h : OwnL S w lo v l) (k : Kp T w w1) (hT : ∀ x ∈ T, x ∈ S ∨ w.heap.size ≤ x) (hg : ∀ g, v.ownBlock = some g → g ∉ T) (hS : ∀ x ∈ S2, x ∈ S ∨ x < lo ∨ w.heap.size ≤ x) : OwnL S2 w1 lo v l := by
  obtain ⟨vs, h1, h2, h3⟩ := h
  refine ⟨vs, k.own h1 hg, h2, fun j hj => ?_⟩
  obtain ⟨u, hu, ho, hk⟩ := h3 j hj
  refine ⟨u, hu, ho.kp k (fun g hg hm => ?_), fun g hg => ⟨fun hm => ?_, (hk g hg).2⟩⟩
  · rcases hT _ hm with e | e
    · exact (hk g hg).1 e
    · have := (ho.lt hg).2; omega
  · have h9 := ho.lt hg
    rcases hS _ hm with e | e | e
    · exact (hk g hg).1 e
    · omega
    · omega
theorem OwnL.form {S : List Nat} {w : World} {lo : Nat} {v : Value} {l : List (List Int)} (h : OwnL S w lo v l) : ∃ A c, v = .slice A l.length c ∧ l.length ≤ c ∧ c ≤ 9223372036854775807 ∧ (A = none → c = 0) ∧ (∀ a, A = some a → lo ≤ a.block ∧ a.block < w.heap.size) := by
  obtain ⟨vs, h1, h2, h3⟩ := h
  obtain ⟨A, c, rfl, a1, a2, _, a3⟩ := own_rd h1
  exact ⟨A, c, rfl, a1, a2, a3, fun a ha => ⟨h2 a.block (by rw [ha]; rfl), own_lt h1 a.block (by rw [ha]; rfl)⟩⟩
theorem OwnL.ri {S S2 : List Nat} {w : World} {lo : Nat} {A : Option Addr} {n c : Nat} {l : List (List Int)} (h : OwnL S w lo (.slice A n c) l) (hS : ∀ x ∈ S2, x ∈ S ∧ A.map Addr.block ≠ some x ∨ x < lo ∨ w.heap.size ≤ x) : Ri S2 w A l := by
  obtain ⟨vs, h1, h2, h3⟩ := h
  obtain ⟨A', c', hv, a1, a2, hr, a3⟩ := own_rd h1
  cases hv
  intro j hj
  obtain ⟨u, hu, ho, hk⟩ := h3 j hj
  obtain ⟨a, rfl, hc⟩ := hr j u hu
  have hl := (own_lt h1 a.block rfl)
  have hlo := h2 a.block rfl
  obtain ⟨Aj, cj, rfl, b1, b2, hrj, b3⟩ := own_rd ho.1
  refine ⟨a, Aj, cj, rfl, fun hm => ?_, hc, b1, b3, fun i x hx => ?_⟩
  · rcases hS _ hm with e | e | e
    · exact e.2 rfl
    · omega
    · omega
  · obtain ⟨aj, rfl, hcx⟩ := hrj i x hx
    have h9 := ho.lt (g := aj.block) rfl
    refine ⟨aj, rfl, fun hm => ?_, hcx⟩
    rcases hS _ hm with e | e | e
    · exact (hk _ rfl).1 e.1
    · omega
    · omega
/-- one row more -/
theorem OwnL.snoc {S : List Nat} {w w1 : World} {lo m : Nat} {v v1 u : Value} {l : List (List Int)} {xs : List Int} {vs : List Value} (hm : l.length = m) (h : OwnL S w lo v l) (hvs : w.ownsRow 0 53 1 v m vs)
    (hu : Own 3 .i64 w lo u xs) (hus : ∀ k, u.ownBlock = some k → k ∉ S ∧ v.ownBlock ≠ some k)
    (o1 : w1.ownsRow 0 53 1 v1 (m + 1) (vs ++ [u])) (k1 : Kp v.ownBlock.toList w w1) (a1 : At w.heap.size v.ownBlock v1.ownBlock) (hlo : lo ≤ w.heap.size) : OwnL S w1 lo v1 (l ++ [xs]) := by
  subst hm
  obtain ⟨vs', h1, h2, h3⟩ := h
  have e : vs' = vs := by
    obtain ⟨A, c, hv, _, _, r1, _⟩ := own_rd h1
    obtain ⟨A', c', hv', _, _, r2, _⟩ := own_rd hvs
    rw [hv] at hv'
    cases hv'
    refine List.ext_getElem? fun i => ?_
    by_cases hi : i < l.length
    · have l1 : vs'.length = l.length := by simpa using h1.1
      have l2 : vs.length = l.length := by simpa using hvs.1
      have g1 : vs'[i]? = some vs'[i] := by simp
      have g2 : vs[i]? = some vs[i] := by simp
      obtain ⟨a, ha, c1⟩ := r1 i _ g1
      obtain ⟨a', ha', c2⟩ := r2 i _ g2
      rw [ha] at ha'
      cases ha'
      rw [g1, g2, ← c1, c2]
    · have l1 : vs'.length = l.length := by simpa using h1.1
      have l2 : vs.length = l.length := by simpa using hvs.1
      rw [List.getElem?_eq_none (by omega), List.getElem?_eq_none (by omega)]
  subst e
  have lv : vs'.length = l.length := by simpa using h1.1
  refine ⟨vs' ++ [u], by simpa using o1, a1.ge hlo h2, fun j hj => ?_⟩
  have hne : ∀ (y : Value) (ys : List Int), Own 3 .i64 w lo y ys → ∀ k, y.ownBlock = some k → v.ownBlock ≠ some k → v1.ownBlock ≠ some k := by
    intro y ys hy k hk hv
    rcases a1 with e | ⟨q, e, hq⟩
    · rw [e]; exact hv
    · rw [e]
      have := (hy.lt hk).2
      intro e2
      have := Option.some.inj e2
      omega
  by_cases hj2 : j < l.length
  · obtain ⟨y, hy, ho, hk⟩ := h3 j hj2
    refine ⟨y, by rw [List.getElem?_append_left (by omega)]; exact hy, ?_, fun k hk2 => ⟨(hk k hk2).1, hne y _ ho k hk2 (hk k hk2).2⟩⟩
    rw [List.getElem_append_left hj2]
    refine ho.kp k1 (fun g hg hm => ?_)
    exact (hk g hg).2 (by simpa using hm)
  · obtain rfl : j = l.length := by simp at hj; omega
    refine ⟨u, by rw [List.getElem?_append_right (by omega)]; simp [lv], ?_, fun k hk2 => ⟨(hus k hk2).1, hne u _ hu k hk2 (hus k hk2).2⟩⟩
    rw [List.getElem_append_right (Nat.le_refl _)]
    simp only [Nat.sub_self, List.getElem_cons_zero]
    refine hu.kp k1 (fun g hg hm => ?_)
    exact (hus g hg).2 (by simpa using hm)
/-- append of one row, which lies in a literal of its own -/
theorem appRow {w : World} {ops : Array Oper} {rest : List Oper} {o : Oper} {a : Act} {Q : Exit → Act → World → Prop} (hgd : o.guard = none) (s x : Operand)
    (ho : o.op = .call { callee := .builtin .append, args := #[s, x], argTypes := #[79, 79] })
    (v : Value) (n : Nat) (xs : List Value) (hs : a.eval s = v) (hown : w.ownsRow 0 53 1 v n xs) (u : Value)
    (hx : a.eval x = .slice (some ⟨w.heap.size, 0, none⟩) 1 1) (hu : u.oneCell' = true) (hm : n + 1 ≤ 5864062014805)
    (h : ∀ v' w', w'.ownsRow 0 53 1 v' (n + 1) (xs ++ [u]) → Kp v.ownBlock.toList (w.alloc (.cells #[u] 53)) w' → At (w.heap.size + 1) v.ownBlock v'.ownBlock →
      wpList Tryz.prog ops Q rest (a.put o.dst v') w') : wpList Tryz.prog ops Q (o :: rest) a (w.alloc (.cells #[u] 53)) :=
  wpList_app hgd s x 79 ho 53 (.slice none 0 0) 1 24 Tryz.underlying79 info_row rfl (by decide) v n xs hs (hown.alloc _) (some ⟨w.heap.size, 0, none⟩) 1 1 [u] hx rfl (rd_one _ _ _) (by simp)
    (by intro y hy; simp only [List.mem_cons, List.not_mem_nil, or_false] at hy; subst hy; exact hu) (by omega) (by omega)
    (fun v' w' h1 h2 h3 _ => h v' w' h1 h2 (by simpa using h3))
/-- append of one number -/
theorem app64_one {w : World} {ops : Array Oper} {rest : List Oper} {o : Oper} {a : Act} {Q : Exit → Act → World → Prop} (hgd : o.guard = none) (s x : Operand)
    (ho : o.op = .call { callee := .builtin .append, args := #[s, x], argTypes := #[53, 53] })
    (v : Value) (n : Nat) (xs : List Value) (hs : a.eval s = v) (hown : w.ownsRow 0 3 1 v n xs) (y : Int)
    (hx : a.eval x = .slice (some ⟨w.heap.size, 0, none⟩) 1 1) (hm : n + 1 ≤ 17592186044416)
    (h : ∀ v' w', w'.ownsRow 0 3 1 v' (n + 1) (xs ++ [.int .i64 y]) → Kp v.ownBlock.toList (w.alloc (.cells #[.int .i64 y] 3)) w' → At (w.heap.size + 1) v.ownBlock v'.ownBlock →
      wpList Tryz.prog ops Q rest (a.put o.dst v') w') : wpList Tryz.prog ops Q (o :: rest) a (w.alloc (.cells #[.int .i64 y] 3)) :=
  opk.app64 hgd s x ho v n xs hs (hown.alloc _) (some ⟨w.heap.size, 0, none⟩) 1 1 [.int .i64 y] hx rfl (rd_one _ _ _) (by simp) (by simp [Value.oneCell']) hm
    (fun v' w' h1 h2 h3 => h v' w' h1 h2 (by simpa using h3))
end Go.Proofs.YtdiljpdohmeceaaGreat.H
namespace Go.Proofs.YtdiljpdohmeceaaGreat.clone
open Go.RowKit H
set_option maxHeartbeats 1000000 in
theorem ints_any (A : Option Addr) (n c : Nat) (xs : List Int) (w : World) (hn : xs.length = n) (h0 : Rd w A (iv .i64 xs)) (hnil : A = none → c = 0) (hb : n ≤ 17592186044416) :
    Calls Tryz.prog 72 #[.slice A n c] w (RetOwn 3 .i64 w xs) := by
  subst hn
  have H0 := As.mk h0
  have HN := As.mk hnil
  clear h0 hnil
  cases A with
  | none =>
    have hx : xs = [] := iv_nil (rd_nil_of_none H0.out)
    subst hx
    have hc := HN.out rfl
    subst hc
    have hq := fun (w : World) => Lib.run_eql_slice_nil (P := Tryz.prog) w 53 3 none 0 0 0 0 Tryz.underlying53
    go_enter Tryz.func72, Tryz.ntmps72
    go_wp2
    go_ret
    exact ⟨_, rfl, Own.nil _ _ _ _, Kp.refl _ _⟩
  | some a =>
    have hq := fun (w : World) => Lib.run_eql_slice_nil (P := Tryz.prog) w 53 3 (some a) xs.length c 0 0 Tryz.underlying53
    go_enter Tryz.func72, Tryz.ntmps72
    go_wp2_with (at_builtin; refine opk.app64 rfl (.tmp 5) (.tmp 6) rfl (.slice (some ⟨w.heap.size, 0, none⟩) 0 0) 0 [] rfl (own_new w [] _ (Nat.zero_le _)) (some a) xs.length c (iv .i64 xs) rfl (iv_len _ _) (((Kp.refl [] w).alloc _).rd_new H0.out (by simp)) (by simp) (iv_one _ _) (by omega) ?_; intro v' w1 hown hk hat; have HO := As.mk hown; have HK := As.mk hk; have HA := As.mk hat; clear hown hk hat)
    go_ret
    exact ⟨v', rfl, ⟨by simpa using HO.out, HA.out.ge (by simp) (by simp [Value.ownBlock])⟩, ((Kp.refl [] w).alloc _).trans HK.out (by simp [Value.ownBlock])⟩
end Go.Proofs.YtdiljpdohmeceaaGreat.clone

/- append of one row onto a row of rows, at a step of a region that draws its order. -/
namespace Go.Proofs.YtdiljpdohmeceaaGreat.clone
open Go.RowKit H

theorem stepRow {w : World} {ops : Array Oper} {o : Oper} {a : Act} {K : Act → World → Prop} {Q : Exit → Act → World → Prop} {E : Prop} (hgd : o.guard = none) (s x : Operand)
    (ho : o.op = .call { callee := .builtin .append, args := #[s, x], argTypes := #[79, 79] })
    (v : Value) (n : Nat) (xs : List Value) (hs : a.eval s = v) (hown : w.ownsRow 0 53 1 v n xs) (u : Value)
    (A : Option Addr) (hx : a.eval x = .slice A 1 1) (hrd : Rd w A [u]) (hnil : A ≠ none) (hu : u.oneCell' = true) (hm : n + 1 ≤ 5864062014805)
    (h : ∀ v' w', w'.ownsRow 0 53 1 v' (n + 1) (xs ++ [u]) → Kp v.ownBlock.toList w w' → At w.heap.size v.ownBlock v'.ownBlock → K (a.put o.dst v') w') :
    if Region.wanted o (yielded ops a.tmps) = true then Oper.wp Tryz.prog o a w K Q else E := by
  have hw : Region.wanted o (yielded ops a.tmps) = true := by simp [Region.wanted, hgd]
  rw [if_pos hw]
  obtain ⟨v', w', hr, h2, h3, h4, h5⟩ := run_app (P := Tryz.prog) w 79 o.type 53 (.slice none 0 0) 1 24 Tryz.underlying79 info_row rfl (by decide) v n xs hown A 1 1 [u] rfl hrd (fun e => absurd e hnil)
    (by intro y hy; simp only [List.mem_cons, List.not_mem_nil, or_false] at hy; subst hy; exact hu) (by omega) (by omega)
  unfold Oper.wp execOp
  simp only [ho, resolve, invoke, builtin, Sem.run_bind, Sem.run_pure, Result.andThen_ok, List.map_toArray, List.map_cons, List.map_nil, hs, hx, hr]
  exact h v' w' h2 h3 h4
end Go.Proofs.YtdiljpdohmeceaaGreat.clone

/- Arguments that are a []string, a [][]byte, opened, with how long each row is. -/
namespace Go.Proofs.YtdiljpdohmeceaaGreat.H
open Go.ChangeShapes Go.WideShapes Go.ChangeAt Go.RowKit Go.Deep

section
variable {H : Type} {enc : TypeId × Value → H} {W : World}

theorem kt_slice {P : Program} {t e : TypeId} {fuel : Nat} {v : Value} {x : DataW H × List MemPlace} (ht : P.underlying t = some (.slice e)) (h : DataW.trod enc P W 0 (fun _ => true) true fuel t [v] = some x) : ∃ A n c, v = .slice A n c := by
  rcases open_slice ht h with ⟨hcs, _⟩ | ⟨a, l, cp, m, k, D, Pl, hcs, _⟩
  · cases hcs
    exact ⟨_, _, _, rfl⟩
  · cases hcs
    exact ⟨_, _, _, rfl⟩
theorem kt_weights {P : Program} {e : TypeId} : ∀ {l : List (DataW H)} {d : DataW H}, d ∈ l → ∀ n ∈ d.weights P e, n ∈ DataW.weightsAll P e l
  | d' :: r, d, hd, n, hn => by
    simp only [DataW.weightsAll, List.mem_append]
    rcases List.mem_cons.1 hd with rfl | h
    · exact Or.inl hn
    · exact Or.inr (kt_weights h n hn)
def ktStr : Value → ByteArray
  | .string s => s
  | _ => ⟨#[]⟩
theorem open_strs {A : Option Addr} {n c : Nat} {d : DataW H} {ps : List MemPlace} (h : DataW.Trod enc Tryz.prog W 0 (fun _ => true) true 22 (.slice A n c) d ps) :
    ∃ l : List ByteArray, l.length = n ∧ Rd W A (l.map Value.string) ∧ n ≤ c ∧ c ≤ 9223372036854775807 ∧ (A = none → c = 0) ∧
      ∀ (ts : List TypeId) (ds : List (DataW H)) (j : Nat), (DataW.weightsEach Tryz.prog ts ds).all (· ≤ reachBytes) = true → ts[j]? = some 22 → ds[j]? = some d → (∀ x ∈ l, x.size ≤ 140737488351232) ∧ n * 16 ≤ 140737488351232 := by
  have h' := h
  obtain ⟨fuel, hf⟩ := h
  rcases open_slice1 Tryz.underlying22 (by kernel_rfl) hf with ⟨hcs, _⟩ | ⟨a, l, cp, m, k, V, D, Pl, hcs, _, hl, hm, hmm, hx, he⟩
  · simp [Value.cells] at hcs
    obtain ⟨rfl, rfl, rfl⟩ := hcs
    exact ⟨[], rfl, Rd.nil _ _, Nat.le_refl _, by omega, fun _ => rfl, fun _ _ _ _ _ _ => ⟨by simp, by omega⟩⟩
  · simp [Value.cells] at hcs
    obtain ⟨rfl, rfl, rfl⟩ := hcs
    simp only [if_true] at hmm
    subst hmm
    have key : ∀ i, i < n → V i = .string (ktStr (V i)) ∧ D i = .lit (.string (ktStr (V i)).data.toList) := by
      intro i hi
      obtain ⟨s, hs, hs2, _⟩ := DataW.trod_string Tryz.underlying9 (he i (by omega)).2
      simp only [List.cons.injEq, and_true] at hs
      rw [hs]
      exact ⟨rfl, (Prod.mk.inj hs2).1⟩
    refine ⟨(List.range n).map fun i => ktStr (V i), by simp, ?_, hl, hm, by simp, ?_⟩
    · intro j v hv
      have hj : j < n := by
        have := (List.getElem?_eq_some_iff.1 hv).1
        simpa using this
      refine ⟨a, rfl, ?_⟩
      rw [(he j (by omega)).1, (key j hj).1]
      simpa [hj] using hv
    · intro ts ds j hw ht hd
      refine ⟨?_, sized_slice' hw ht hd Tryz.underlying22 (by kernel_rfl) h'⟩
      intro x hx'
      obtain ⟨i, hi, rfl⟩ := List.mem_map.1 hx'
      have hin : i < n := by simpa using hi
      have hd' := (Prod.mk.inj hx).1
      have hmem : D i ∈ (List.range n).map D := List.mem_map.2 ⟨i, by simpa using hin, rfl⟩
      have hone : (ktStr (V i)).data.toList.length ∈ (D i).weights Tryz.prog 9 := by
        rw [(key i hin).2]
        simp [DataW.weights]
      have hin2 : (ktStr (V i)).data.toList.length ∈ DataW.weights Tryz.prog 22 d := by
        rw [hd']
        simp only [DataW.weights, Tryz.underlying22, List.mem_cons, List.mem_append]
        exact .inr (.inl (kt_weights hmem _ hone))
      have := of_decide_eq_true (List.all_eq_true.1 hw _ (DataW.weights_mem_each ht hd _ hin2))
      rw [Array.length_toList] at this
      exact this
theorem open_texts {A : Option Addr} {n c : Nat} {d : DataW H} {ps : List MemPlace} (h : DataW.Trod enc Tryz.prog W 0 (fun _ => true) true 23 (.slice A n c) d ps) :
    ∃ l : List (List Int), l.length = n ∧ Rs [] W A l ∧ n ≤ c ∧ c ≤ 9223372036854775807 ∧ (A = none → c = 0) ∧ (∀ x ∈ l, ∀ y ∈ x, (Lit.int .u8 y).wf = true) ∧
      ∀ (ts : List TypeId) (ds : List (DataW H)) (j : Nat), (DataW.weightsEach Tryz.prog ts ds).all (· ≤ reachBytes) = true → ts[j]? = some 23 → ds[j]? = some d → (∀ x ∈ l, x.length ≤ 140737488351232) ∧ n * 24 ≤ 140737488351232 := by
  have h' := h
  obtain ⟨fuel, hf⟩ := h
  rcases open_slice1 Tryz.underlying23 (by kernel_rfl) hf with ⟨hcs, _⟩ | ⟨a, l, cp, m, k, V, D, Pl, hcs, _, hl, hm, hmm, hx, he⟩
  · simp [Value.cells] at hcs
    obtain ⟨rfl, rfl, rfl⟩ := hcs
    exact ⟨[], rfl, fun j hj => absurd hj (by simp), Nat.le_refl _, by omega, fun _ => rfl, by simp, fun _ _ _ _ _ _ => ⟨by simp, by omega⟩⟩
  · simp [Value.cells] at hcs
    obtain ⟨rfl, rfl, rfl⟩ := hcs
    simp only [if_true] at hmm
    subst hmm
    have each : ∀ i, i < n → ∃ x : List Int, (∃ B e, V i = .slice B x.length e ∧ x.length ≤ e ∧ (B = none → e = 0) ∧ Rd W B (iv .u8 x)) ∧ (∀ y ∈ x, (Lit.int .u8 y).wf = true) ∧ ((∀ q ∈ (D i).weights Tryz.prog 24, q ≤ reachBytes) → x.length ≤ 140737488351232) := by
      intro i hi
      obtain ⟨_, h2⟩ := he i (by omega)
      obtain ⟨B, nb, e, hV⟩ := kt_slice Tryz.underlying24 h2
      rw [hV] at h2
      have T : DataW.Trod enc Tryz.prog W 0 (fun _ => true) true 24 (.slice B nb e) (D i) (Pl i) := ⟨k, by simpa [Value.cells] using h2⟩
      obtain ⟨x, hx1, hx2, hx3, hx4, hx5, hx6⟩ := open_nums Tryz.underlying24 Tryz.underlying5 (by kernel_rfl) T
      subst hx1
      refine ⟨x, ⟨B, e, hV, hx3, hx5, hx2⟩, hx6, fun hw => ?_⟩
      have hin : (DataW.weightsEach Tryz.prog [24] [D i]).all (· ≤ reachBytes) = true := by
        refine List.all_eq_true.2 fun q hq => decide_eq_true (hw q ?_)
        simpa [DataW.weightsEach] using hq
      have s2 := sized_slice' hin (j := 0) (t := 24) (B := 1) rfl rfl Tryz.underlying24 (by kernel_rfl) T
      omega
    obtain ⟨f, hfs⟩ := choose_lt each
    refine ⟨(List.range n).map f, by simp, ?_, hl, hm, by simp, ?_, ?_⟩
    · intro i hi
      have hin : i < n := by simpa using hi
      obtain ⟨⟨B, e, h1, h2, h3, h4⟩, _⟩ := hfs i hin
      refine ⟨a, B, e, rfl, by simp, ?_, ?_, h3, ?_⟩
      · rw [(he i (by omega)).1, h1]; simp
      · simpa using h2
      · intro q v hv
        rw [List.getElem_map, List.getElem_range] at hv
        obtain ⟨b, hb, hc⟩ := h4 q v hv
        exact ⟨b, hb, by simp, hc⟩
    · intro x hx' y hy
      obtain ⟨i, hi, rfl⟩ := List.mem_map.1 hx'
      exact (hfs i (by simpa using hi)).2.1 y hy
    · intro ts ds j hw ht hd
      refine ⟨?_, sized_slice' hw ht hd Tryz.underlying23 (by kernel_rfl) h'⟩
      intro x hx'
      obtain ⟨i, hi, rfl⟩ := List.mem_map.1 hx'
      have hin : i < n := by simpa using hi
      refine (hfs i hin).2.2 fun q hq => ?_
      have hd' := (Prod.mk.inj hx).1
      have hmem : D i ∈ (List.range n).map D := List.mem_map.2 ⟨i, by simpa using hin, rfl⟩
      have hin2 : q ∈ DataW.weights Tryz.prog 23 d := by
        rw [hd']
        simp only [DataW.weights, Tryz.underlying23, List.mem_cons, List.mem_append]
        exact .inr (.inl (kt_weights hmem _ hq))
      exact of_decide_eq_true (List.all_eq_true.1 hw _ (DataW.weights_mem_each ht hd _ hin2))
end
end Go.Proofs.YtdiljpdohmeceaaGreat.H
