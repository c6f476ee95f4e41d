/- octet.Writer: what it holds (Wr), and its methods. -/
import Derived.Test.YtlknlpiiogmfbaaApp
import Derived.Test.YtlknlpiiogmfbaaOctet
import Derived.Test.YtlknlpiiogmfbaaClone
namespace Go.Proofs.Ytlknlpiiogmfbaa.writer
open Go.RowKit H O

theorem info_u8 : (Try.prog.info? 5).map (fun i => (i.zero, i.size, i.bytes)) = some (some (.int .u8 0), 1, 1) := by kernel_rfl

/-- The Writer in block b has laid xs, in block g (if any). -/
def Wr (w : World) (b : Nat) (g : Option Nat) (xs : List Int) : Prop :=
  ∃ v, w.heap[b]? = some (.cells #[v] 85 (0, 0)) ∧ v.ownBlock = g ∧ w.ownsRow 0 5 1 v xs.length (iv .u8 xs) ∧ g ≠ some b
/-- Behind a call that lays ys. -/
def WrPost (b : Nat) (g : Option Nat) (xs ys : List Int) (w : World) (e : Ending) (w' : World) : Prop :=
  e = .returned (.tuple #[]) ∧ ∃ g', Wr w' b g' (xs ++ ys) ∧ At w.heap.size g g' ∧ Kp (b :: g.toList) w w'

theorem Wr.kp {w w1 : World} {b : Nat} {g : Option Nat} {xs : List Int} {S : List Nat} (h : Wr w b g xs) (k : Kp S w w1) (hb : b ∉ S) (hg : ∀ x, g = some x → x ∉ S) : Wr w1 b g xs := by
  obtain ⟨v, h1, rfl, h3, h4⟩ := h
  exact ⟨v, k.blk h1 hb, rfl, k.own h3 hg, h4⟩
theorem Wr.lt {w : World} {b : Nat} {g : Option Nat} {xs : List Int} (h : Wr w b g xs) : b < w.heap.size ∧ ∀ x, g = some x → x < w.heap.size := by
  obtain ⟨v, h1, rfl, h3, h4⟩ := h
  exact ⟨lt_of_block h1, own_lt h3⟩
theorem Wr.new (w : World) : Wr (w.alloc (.cells #[.slice none 0 0] 85)) w.heap.size none [] :=
  ⟨_, heap_alloc_new w _, rfl, World.ownsRow_nil _ 0 _ 1, by simp⟩

/-- Behind an append onto a Writer's row: what the store wants, and what it leaves. -/
theorem Wr.app {w wa w1 : World} {b n m : Nat} {ys news : List Int} {v v1 : Value} (hy : ys.length = n) (hb : w.heap[b]? = some (.cells #[v] 85 (0, 0))) (hne : v.ownBlock ≠ some b) (ka : Kp [] w wa)
    (hm : news.length = m) (o1 : w1.ownsRow 0 5 1 v1 (n + m) (iv .u8 ys ++ iv .u8 news)) (k1 : Kp v.ownBlock.toList wa w1) (a1 : At wa.heap.size v.ownBlock v1.ownBlock) :
    w1.cell? ⟨b, 0, none⟩ = some v ∧ w1.frozen? ⟨b, 0, none⟩ = false ∧ Wr (w1.setCell ⟨b, 0, none⟩ v1) b v1.ownBlock (ys ++ news) ∧ At w.heap.size v.ownBlock v1.ownBlock ∧
      Kp (b :: v.ownBlock.toList) w (w1.setCell ⟨b, 0, none⟩ v1) := by
  subst hm hy
  have hlt := lt_of_block hb
  have hs := ka.size
  have hb1 : w1.heap[b]? = some (.cells #[v] 85 (0, 0)) := k1.blk (ka.blk hb (by simp)) (by simpa using hne)
  have hne1 : v1.ownBlock ≠ some b := a1.off (by omega) hne
  refine ⟨cell_of_one hb1, free_of_one hb1, ⟨v1, one_setCell hb1, rfl, ?_, hne1⟩, ?_, ?_⟩
  · have := (((Kp.refl [b] w1).setCell (a := ⟨b, 0, none⟩) (.inl (by simp)) v1).own o1 (by intro k hk; rw [hk] at hne1; simpa using hne1))
    simpa [iv] using this
  · rcases a1 with h | ⟨k, h, hk⟩
    · exact .inl h
    · exact .inr ⟨k, h, by omega⟩
  · refine (((ka.mono (T := b :: v.ownBlock.toList) (by simp)).row k1 ?_).setCell ?_ v1)
    · intro x hx
      exact .inl (by simp [hx])
    · exact .inl (by simp)

theorem WrPost.of {b : Nat} {g g' : Option Nat} {xs ys : List Int} {w w' : World} (h1 : Wr w' b g' (xs ++ ys)) (h2 : At w.heap.size g g') (h3 : Kp (b :: g.toList) w w') : WrPost b g xs ys w (.returned (.tuple #[])) w' := ⟨rfl, g', h1, h2, h3⟩

theorem WrPost.then {b : Nat} {g g1 g2 : Option Nat} {xs ys zs : List Int} {w w1 wa w2 : World} (A1 : At w.heap.size g g1) (K1 : Kp (b :: g.toList) w w1) (ka : Kp [] w1 wa) (W2 : Wr w2 b g2 (xs ++ ys ++ zs)) (A2 : At wa.heap.size g1 g2)
    (K2 : Kp (b :: g1.toList) wa w2) : WrPost b g xs (ys ++ zs) w (.returned (.tuple #[])) w2 := by
  have hs := ka.size
  have hs1 := K1.size
  refine ⟨rfl, g2, by rw [← List.append_assoc]; exact W2, A1.trans A2 (by omega), (K1.trans ka (by simp)).trans K2 ?_⟩
  intro x hx
  rcases List.mem_cons.1 hx with rfl | hx
  · exact .inl (by simp)
  · have hx' : g1 = some x := by simpa using hx
    rcases A1 with rfl | ⟨j, rfl, hj⟩
    · exact .inl (by simp [hx'])
    · exact .inr (by have := Option.some.inj hx'; omega)

/-- Raw -/
theorem raw_any (b : Nat) (g : Option Nat) (xs : List Int) (A : Option Addr) (n c : Nat) (ys : List Int) (w : World) (hW : Wr w b g xs) (hn : ys.length = n) (hr : Rd w A (iv .u8 ys)) (hnil : A = none → c = 0)
    (hb : xs.length + n ≤ 70368744177664) :
    Calls Try.prog 77 #[.pointer (some ⟨b, 0, none⟩), .slice A n c] w (WrPost b g xs ys w) := by
  obtain ⟨v, hb1, rfl, ho, hne⟩ := hW
  have c1 := cell_of_one hb1
  have HB := As.mk hb1
  have HO := As.mk ho
  have HR := As.mk hr
  have HN := As.mk hnil
  have HE := As.mk hne
  have HL := As.mk hn
  clear hb1 ho hr hnil hne hn
  go_enter Try.func77, Try.ntmps77
  go_wp2_with (at_builtin; refine clone.app8 rfl (.tmp 10) (.tmp 11) rfl v xs.length (iv .u8 xs) rfl HO.out A n c (iv .u8 ys) rfl (by rw [iv_len, HL.out]) HR.out HN.out (iv_one _ _) (by omega) ?_; intro v1 w1 o1 k1 a1; obtain ⟨A1, c1', rfl, _⟩ := own_rd o1; obtain ⟨c2, f2, W2, A2, K2⟩ := Wr.app rfl HB.out HE.out (Kp.refl [] w) HL.out o1 k1 a1; have R := As.mk (WrPost.of W2 A2 K2); clear o1 k1 a1 W2 A2 K2)
  go_end0
  exact R.out

/-- Out -/
theorem out_any (b : Nat) (g : Option Nat) (xs : List Int) (w : World) (hW : Wr w b g xs) (hb : xs.length ≤ 70368744177664) :
    Calls Try.prog 60 #[.pointer (some ⟨b, 0, none⟩)] w (RetOwn 5 .u8 w xs) := by
  obtain ⟨v, hb1, rfl, ho, hne⟩ := hW
  obtain ⟨A, c, rfl, hle, hmax, hrd, hnil⟩ := own_rd ho
  have c1 := cell_of_one hb1
  have HC := As.mk (clone.clone_any A xs.length c xs w rfl hrd hnil (by omega))
  clear hb1 ho hne hrd hnil
  go_enter Try.func60, Try.ntmps60
  go_wp2_with (go_at_call 52; refine HC.out.mono ?_; rintro e w' ⟨v, rfl, ho, hk⟩; have HO := As.mk ho; have HK := As.mk hk; clear ho hk)
  go_ret
  exact ⟨v, rfl, HO.out, HK.out⟩

theorem min_two (x y : Int) (t ty : TypeId) (w : World) : (Builtin.min_ #[t, t] ty #[.int .i64 x, .int .i64 y]).run Try.prog w = .ok (.int .i64 (if y < x then y else x)) w := by
  simp [Builtin.min_, Builtin.min2]
theorem max_two (x y : Int) (t ty : TypeId) (w : World) : (Builtin.max_ #[t, t] ty #[.int .i64 x, .int .i64 y]).run Try.prog w = .ok (.int .i64 (if y > x then y else x)) w := by
  simp [Builtin.max_, Builtin.max2]

set_option maxHeartbeats 4000000 in
set_option maxRecDepth 100000 in
/-- Nums -/
theorem nums_any (b : Nat) (g : Option Nat) (xs : List Int) (A : Option Addr) (n c : Nat) (vs : List Int) (w : World) (hW : Wr w b g xs) (hn : vs.length = n) (hr : RdS (b :: g.toList) w A (iv .i64 vs))
    (hb : xs.length + 9 * n ≤ 70368744177664) :
    Calls Try.prog 58 #[.pointer (some ⟨b, 0, none⟩), .slice A n c] w (WrPost b g xs (nums vs) w) := by
  subst hn
  have HW := As.mk hW
  have HR := As.mk hr
  clear hW hr
  go_enter Try.func58, Try.ntmps58
  go_wp2
  go_loopw [11] (fun i wr => ∃ k : Nat, i = .int .i64 k ∧ k ≤ vs.length ∧ As (WrPost b g xs (nums (vs.take k)) w (.returned (.tuple #[])) wr)) (fun i _ => vs.length - (intOf i).toNat)
  case atStart => exact ⟨0, rfl, by omega, ⟨WrPost.of (by simpa [nums] using HW.out) (At.refl _ _) (Kp.refl _ _)⟩⟩
  case round =>
    obtain ⟨k, rfl, hk, HP⟩ := hrel
    by_cases hlt : k < vs.length
    · obtain ⟨_, g1, W1, A1, K1⟩ := HP.out
      obtain ⟨a, rfl, d1⟩ := (HR.out.kp K1 (fun x hx => .inl hx)).int k hlt
      obtain ⟨x, hx⟩ : ∃ x, x = vs[k] := ⟨_, rfl⟩
      rw [← hx] at d1
      have HX := As.mk hx
      clear hx
      obtain ⟨u, hu⟩ : ∃ u, u = cl x := ⟨_, rfl⟩
      have hmin : ∀ w, (Builtin.min_ #[3, 3] 3 #[.int .i64 x, .int .i64 4611686018427387904]).run Try.prog w = .ok (.int .i64 (min x 4611686018427387904)) w := fun w => by rw [min_two]; congr 2; omega
      have hmax : ∀ w, (Builtin.max_ #[3, 3] 3 #[.int .i64 0, .int .i64 (min x 4611686018427387904)]).run Try.prog w = .ok (.int .i64 (u : Int)) w := fun w => by rw [max_two]; rw [cl_if, hu]
      have hu2 : u ≤ 4611686018427387904 := by subst hu; exact cl_le x
      have HU := As.mk hu
      clear hu
      have HP : As (WrPost b g xs (nums (vs.take k)) w (.returned (.tuple #[])) wr) := HP
      clear W1 A1 K1
      obtain ⟨wo, rfl⟩ : ∃ wo : World, wo = wr := ⟨_, rfl⟩
      go_wp2_with fail
      go_loopw [6] (fun s w2 => ∃ u2 : Nat, s = .int .u64 (u2 : Int) ∧ As (u2 ≤ 4611686018427387904) ∧ As (∃ pre, pre ++ enc u2 = num x ∧ WrPost b g xs (nums (vs.take k) ++ pre) w (.returned (.tuple #[])) w2)) (fun s _ => (intOf s).toNat)
      case atStart => exact ⟨u, rfl, ⟨hu2⟩, ⟨[], by rw [HU.out]; rfl, by rw [List.append_nil]; exact HP.out⟩⟩
      case round =>
        clear d1 hmin hmax hu2
        obtain ⟨u2, rfl, HU2, ⟨pre, hpre, _, g2, W2, A2, K2⟩⟩ := hrel
        obtain ⟨v, hb1, rfl, ho, hne⟩ := W2
        obtain ⟨m, hm⟩ : ∃ m, (xs ++ (nums (vs.take k) ++ pre)).length = m := ⟨_, rfl⟩
        rw [hm] at ho
        have HM := As.mk hm
        clear hm
        obtain ⟨Av, cv, rfl, _⟩ := own_rd ho
        have c1 := cell_of_one hb1
        have HB := As.mk hb1
        have HO := As.mk ho
        have HE := As.mk hne
        have HA2 := As.mk A2
        have HK2 := As.mk K2
        have HP2 := As.mk hpre
        clear hb1 ho hne A2 K2 hpre
        have HBD : As (m + 1 ≤ 140737488355328) := by
          constructor
          have h1 := nums_len (vs.take k)
          have h2 := num_len x
          have h3 := enc_pos u2
          have h4 := HM.out
          rw [← HP2.out] at h2
          simp only [List.length_append, List.length_take] at h1 h2 h4
          omega
        by_cases hge : 128 ≤ u2
        · have hor := or128 u2
          go_wp2_with (at_builtin; refine clone.app8_one rfl (.tmp 27) (.tmp 31) rfl (.slice Av m cv) _ _ rfl HO.out ((u2 : Int) % 128 + 128) rfl HBD.out ?_; intro v1 w1 o1 k1 a1; obtain ⟨A1, c1', rfl, _⟩ := own_rd o1; obtain ⟨c2, f2, W3, A3, K3⟩ := Wr.app (news := [(u2 : Int) % 128 + 128]) HM.out HB.out HE.out ((Kp.refl [] wr).alloc _) rfl o1 k1 (by simpa using a1); have R := As.mk (WrPost.then HA2.out HK2.out (Kp.refl _ _) W3 A3 K3); clear o1 k1 a1 W3 A3 K3)
          go_roundw
          case rel => exact ⟨u2 / 128, by go_num, ⟨by have := HU2.out; omega⟩, ⟨pre ++ [(u2 : Int) % 128 + 128], by rw [← HP2.out, enc_hi (u := u2) (by omega), List.append_assoc, List.singleton_append], by rw [← List.append_assoc]; exact R.out⟩⟩
          case measure => simp [intOf]; omega
        · go_wp2_with (at_builtin; refine clone.app8_one rfl (.tmp 39) (.tmp 42) rfl (.slice Av m cv) _ _ rfl HO.out (u2 : Int) rfl HBD.out ?_; intro v1 w1 o1 k1 a1; obtain ⟨A1, c1', rfl, _⟩ := own_rd o1; obtain ⟨c2, f2, W3, A3, K3⟩ := Wr.app (news := [(u2 : Int)]) HM.out HB.out HE.out ((Kp.refl [] wr).alloc _) rfl o1 k1 (by simpa using a1); have R := As.mk (WrPost.then HA2.out HK2.out (Kp.refl _ _) W3 A3 K3); clear o1 k1 a1 W3 A3 K3)
          go_roundw
          case rel => exact ⟨k + 1, by go_num, by omega, ⟨by rw [nums_step vs k hlt, ← HX.out, ← HP2.out, enc_lo (u := u2) (by omega), ← List.append_assoc]; exact R.out⟩⟩
          case measure => simp [intOf]; omega
    · go_wp2
      go_end0
      have : vs.take k = vs := List.take_of_length_le (by omega)
      rw [this] at HP
      exact HP.out


set_option maxHeartbeats 4000000 in
/-- Bytes -/
theorem bytes_any (b : Nat) (g : Option Nat) (xs : List Int) (A : Option Addr) (n c : Nat) (l : List (List Int)) (w : World) (hW : Wr w b g xs) (hn : l.length = n) (hr : Rs (b :: g.toList) w A l)
    (hb : xs.length + 9 * n + l.flatten.length ≤ 70368744177664) :
    Calls Try.prog 59 #[.pointer (some ⟨b, 0, none⟩), .slice A n c] w (WrPost b g xs (rows l) w) := by
  subst hn
  have HW := As.mk hW
  have HR := As.mk hr
  clear hW hr
  go_enter Try.func59, Try.ntmps59
  go_wp2
  go_loopw [8] (fun i wr => ∃ k : Nat, i = .int .i64 k ∧ k ≤ l.length ∧ As (WrPost b g xs (rows (l.take k)) w (.returned (.tuple #[])) wr)) (fun i _ => l.length - (intOf i).toNat)
  case atStart => exact ⟨0, rfl, by omega, ⟨WrPost.of (by simpa [rows] using HW.out) (At.refl _ _) (Kp.refl _ _)⟩⟩
  case round =>
    obtain ⟨k, rfl, hk, HP⟩ := hrel
    by_cases hlt : k < l.length
    · obtain ⟨_, g1, W1, A1, K1⟩ := HP.out
      obtain ⟨a, Aj, cj, rfl, ha, d0, _, hnil, hrd⟩ := HR.out k hlt
      have d1 := K1.cell d0 (by rw [add_block]; exact ha)
      clear d0 ha
      obtain ⟨x, hx⟩ : ∃ x, x = l[k] := ⟨_, rfl⟩
      rw [← hx] at d1 hrd
      have HX := As.mk hx
      have HRD := As.mk hrd
      have HNL := As.mk hnil
      clear hx hrd hnil
      have HBD : As (xs.length + (rows (l.take k)).length + 9 + x.length ≤ 70368744177664) := by
        constructor
        have h1 := rows_len_take l k hlt
        rw [← HX.out] at h1
        omega
      have HBD2 : As ((xs ++ (rows (l.take k) ++ nums [(x.length : Int)])).length + x.length ≤ 70368744177664) := by
        constructor
        have h1 := HBD.out
        have h2 := nums_len [(x.length : Int)]
        simp only [List.length_append, List.length_cons, List.length_nil] at h2 ⊢
        omega
      have HN : As (Calls Try.prog 58 #[.pointer (some ⟨b, 0, none⟩), .slice (some ⟨wr.heap.size, 0, none⟩) 1 1] (wr.alloc (.cells #[.int .i64 (x.length : Int)] 3)) (WrPost b g1 (xs ++ rows (l.take k)) (nums [(x.length : Int)]) (wr.alloc (.cells #[.int .i64 (x.length : Int)] 3)))) := by
        constructor
        have hl := W1.lt
        refine nums_any b g1 _ _ 1 1 [(x.length : Int)] _ (W1.kp ((Kp.refl [] wr).alloc _) (by simp) (by simp)) rfl (RdS.lit wr [.int .i64 (x.length : Int)] _ ?_) (by have := HBD.out; rw [List.length_append]; omega)
        intro y hy
        rcases List.mem_cons.1 hy with rfl | hy
        · exact hl.1
        · exact hl.2 y (by simpa using hy)
      have HA1 := As.mk A1
      have HK1 := As.mk K1
      clear W1 A1 K1
      go_wp2_with (first
        | (go_at_call 58; refine HN.out.mono ?_; rintro e w1 ⟨rfl, g2, W2, A2, K2⟩; obtain ⟨_, g3, W3, A3, K3⟩ := WrPost.then HA1.out HK1.out ((Kp.refl [] wr).alloc _) W2 A2 K2; have HA3 := As.mk A3; have HK3 := As.mk K3; have HRW := As.mk (raw_any b g3 _ Aj x.length cj x w1 W3 rfl (HRD.out.kp K3 (fun x hx => .inl hx)).rd HNL.out HBD2.out); clear W2 A2 K2 W3 A3 K3)
        | (go_at_call 77; refine HRW.out.mono ?_; rintro e w2 ⟨rfl, g4, W4, A4, K4⟩; have HP4 := As.mk (WrPost.then HA3.out HK3.out (Kp.refl [] _) W4 A4 K4); clear W4 A4 K4))
      go_roundw
      case rel => exact ⟨k + 1, by go_num, by omega, ⟨by rw [rows_step l k hlt, ← HX.out, row, ← nums_one, ← List.append_assoc]; exact HP4.out⟩⟩
      case measure => simp [intOf]; omega
    · go_wp2
      go_end0
      have : l.take k = l := List.take_of_length_le (by omega)
      rw [this] at HP
      exact HP.out

end Go.Proofs.Ytlknlpiiogmfbaa.writer
