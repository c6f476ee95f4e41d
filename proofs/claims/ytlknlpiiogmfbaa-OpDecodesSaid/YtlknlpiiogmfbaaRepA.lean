/- op.EncodeReply, haystackref13.EncodeReply. -/
import Derived.Test.YtlknlpiiogmfbaaOpD
import Derived.Test.YtlknlpiiogmfbaaSlices
import Derived.Test.YtlknlpiiogmfbaaRef2
import Derived.Test.YtlknlpiiogmfbaaCuts
namespace Go.Proofs.Ytlknlpiiogmfbaa.opk
open Go.RowKit H O haystacklaw13

theorem app64 {w : World} {ops : Array Oper} {rest : List Oper} {o : Oper} {a : Act} {Q : Exit → Act → World → Prop} (hgd : o.guard = none) (s x : Operand)
    (ho : o.op = .call { callee := .builtin .append, args := #[s, x], argTypes := #[36, 36] })
    (v : Value) (n : Nat) (xs : List Value) (hs : a.eval s = v) (hown : w.ownsRow 0 3 1 v n xs)
    (A : Option Addr) (m c : Nat) (news : List Value) (hx : a.eval x = .slice A m c) (hl : news.length = m) (hrd : Rd w A news) (hnil : A = none → c = 0) (h1 : ∀ u ∈ news, u.oneCell' = true)
    (hm : n + m ≤ 17592186044416)
    (h : ∀ v' w', w'.ownsRow 0 3 1 v' (n + m) (xs ++ news) → Kp v.ownBlock.toList w w' → At w.heap.size v.ownBlock v'.ownBlock →
      wpList Try.prog ops Q rest (a.put o.dst v') w') : wpList Try.prog ops Q (o :: rest) a w :=
  wpList_app hgd s x 36 ho 3 (.int .i64 0) 1 8 Try.underlying36 info_i64 rfl (by decide) v n xs hs hown A m c news hx (by rw [hl, Nat.mul_one]) hrd hnil h1 (by omega) (by omega)
    (fun v' w' h1 h2 h3 _ => h v' w' h1 h2 h3)

theorem kp_lit {w w1 : World} {o : Obj} {n c : Nat} (k : Kp (Value.slice (some ⟨w.heap.size, 0, none⟩) n c).ownBlock.toList (w.alloc o) w1) : Kp [] w w1 :=
  ((Kp.refl [] w).alloc o).trans k (by simp [Value.ownBlock])
/-- a reply's bytes -/
def repBytes (er : Int) (vs : List Int) : List Int := nums [er, ((min vs.length 8 : Nat) : Int)] ++ nums (vs.take (min vs.length 8))
theorem repBytes_len (er : Int) (vs : List Int) : (repBytes er vs).length ≤ 100 := by
  unfold repBytes
  have h1 := nums_len [er, ((min vs.length 8 : Nat) : Int)]
  have h2 := nums_len (vs.take (min vs.length 8))
  rw [List.length_append]
  simp only [List.length_cons, List.length_nil, List.length_take] at h1 h2
  omega

/-- A reply's block. -/
def RepAt (w : World) (b : Nat) (er : Int) (v : Value) : Prop := w.heap[b]? = some (.cells #[.int .i64 er, v] 52)
theorem RepAt.cells {w : World} {b : Nat} {er : Int} {v : Value} (h : RepAt w b er v) : w.cell? ⟨b, 0, none⟩ = some (.int .i64 er) ∧ w.cell? ⟨b, 1, none⟩ = some v := ⟨blk_cell h 0 rfl, blk_cell h 1 rfl⟩
theorem RepAt.new (w : World) (er : Int) (v : Value) : RepAt (w.alloc (.cells #[.int .i64 er, v] 52)) w.heap.size er v := heap_alloc_new w _
theorem RepAt.kp {S : List Nat} {w w1 : World} {b : Nat} {er : Int} {v : Value} (h : RepAt w b er v) (hk : Kp S w w1) (hb : b ∉ S) : RepAt w1 b er v := hk.blk h hb
theorem RepAt.free {w : World} {b : Nat} {er : Int} {v : Value} (h : RepAt w b er v) (j : Nat) : w.frozen? ⟨b, j, none⟩ = false := blk_free h j

/-- two numbers on a new Writer -/
theorem nums_two (w : World) (x y : Int) : Calls Try.prog 58 #[.pointer (some ⟨w.heap.size, 0, none⟩), .slice (some ⟨w.heap.size + 1, 0, none⟩) 2 2]
    ((w.alloc (.cells #[.slice none 0 0] 85)).alloc (.cells #[.int .i64 x, .int .i64 y] 3))
    (fun e w' => e = .returned (.tuple #[]) ∧ ∃ g, writer.Wr w' w.heap.size g (nums [x, y]) ∧ (∀ z, g = some z → w.heap.size < z) ∧ Kp [] w w' ∧ w.heap.size < w'.heap.size) := by
  have h := writer.nums_any w.heap.size none [] (some ⟨w.heap.size + 1, 0, none⟩) 2 2 [x, y] ((w.alloc (.cells #[.slice none 0 0] 85)).alloc (.cells #[.int .i64 x, .int .i64 y] 3))
    ((writer.Wr.new w).kp ((Kp.refl [] _).alloc _) (by simp) (by simp)) rfl (by
      have := RdS.lit (S := [w.heap.size]) (w.alloc (.cells #[.slice none 0 0] 85)) [.int .i64 x, .int .i64 y] 3 (by simp)
      simpa [iv] using this) (by decide)
  refine h.mono ?_
  rintro e w' ⟨rfl, g, W1, A1, K1⟩
  refine ⟨rfl, g, by simpa using W1, ?_, (((Kp.refl [] w).alloc _).alloc _).trans K1 (by simp), ?_⟩
  · intro x hx
    rcases A1 with h | ⟨j, h, hj⟩
    · rw [h] at hx; cases hx
    · rw [h] at hx; have := Option.some.inj hx; simp at hj; omega
  · have := K1.size
    simp at this
    omega
/-- more numbers on the Writer; and out -/
theorem nums_out {w w3 : World} {b : Nat} {g : Option Nat} {ys : List Int} (A : Option Addr) (n c : Nat) (vs : List Int) (hn : vs.length = n) (hr : Rd w A (iv .i64 vs))
    (W3 : writer.Wr w3 b g ys) (hb : w.heap.size ≤ b) (hg : ∀ x, g = some x → w.heap.size ≤ x) (K3 : Kp [] w w3) (hn4 : n ≤ 1000000) (hy : ys.length ≤ 1000000) :
    Calls Try.prog 58 #[.pointer (some ⟨b, 0, none⟩), .slice A n c] w3
      (fun e w' => e = .returned (.tuple #[]) ∧ (Calls Try.prog 60 #[.pointer (some ⟨b, 0, none⟩)] w' fun e w'' => ∃ v, e = .returned v ∧ Own 5 .u8 w'' w.heap.size v (ys ++ nums vs) ∧ Kp [] w w'')) := by
  have hS : ∀ x ∈ b :: g.toList, w.heap.size ≤ x := by
    intro x hx
    rcases List.mem_cons.1 hx with rfl | hx
    · exact hb
    · exact hg x (by simpa using hx)
  have h := writer.nums_any b g ys A n c vs w3 W3 hn (RdS.new hr K3 hS) (by omega)
  refine h.mono ?_
  rintro e w5 ⟨rfl, g5, W5, A5, K5⟩
  refine ⟨rfl, ?_⟩
  have hl := nums_len vs
  have K5' : Kp [] w w5 := K3.trans K5 (fun x hx => .inr (hS x hx))
  refine (writer.out_any b g5 _ w5 W5 (by rw [List.length_append]; omega)).mono ?_
  rintro e w6 ⟨v, rfl, O6, K6⟩
  exact ⟨v, rfl, O6.lower K5'.size, K5'.trans K6 (by simp)⟩

set_option maxHeartbeats 4000000 in
theorem encRep_any (er : Int) (A : Option Addr) (n c : Nat) (vs : List Int) (w : World) (hn : vs.length = n) (hr : Rd w A (iv .i64 vs)) (hc : n ≤ c) (hnil : A = none → c = 0) (hm : n ≤ 1000000) :
    Calls Try.prog 31 #[.agg #[.int .i64 er, .slice A n c]] w (RetOwn 5 .u8 w (repBytes er vs)) := by
  obtain ⟨k, hk⟩ : ∃ k, k = min n 8 := ⟨_, rfl⟩
  have hk8 : k ≤ n ∧ k ≤ 8 := by omega
  have hmin : ∀ w, (Builtin.min_ #[3, 3] 3 #[.int .i64 (n : Int), .int .i64 8]).run Try.prog w = .ok (.int .i64 (k : Int)) w := fun w => by
    rw [writer.min_two]
    congr 2
    split <;> omega
  have hsl := slice_head htI hzI A n c k (by omega) hnil
  have HV := As.mk (show Rd w A (iv .i64 (vs.take k)) from by have h := hr.take k; rwa [iv_take] at h)
  have HLV : As ((vs.take k).length = k) := ⟨by rw [List.length_take]; omega⟩
  have HFIN : As (nums [er, (k : Int)] ++ nums (vs.take k) = repBytes er vs) := ⟨by rw [repBytes, hn, ← hk]⟩
  have HB := As.mk (RepAt.new w er (.slice A n c))
  obtain ⟨d0, d1⟩ := HB.out.cells
  have hnu := nums_two (w.alloc (.cells #[.int .i64 er, .slice A n c] 52)) er (k : Int)
  rw [World.size_alloc] at hnu
  have HNU := As.mk hnu
  clear hr hn hnil hk d0 d1 hnu
  go_enter Try.func31, Try.ntmps31
  go_wp2_with (first
    | (go_at_call 58; refine HNV.out.mono ?_; rintro e w4 ⟨rfl, ho⟩; have HO := As.mk ho; clear ho HNV)
    | (go_at_call 58; refine HNU.out.mono ?_; rintro e w3 ⟨rfl, g3, W3, G3, K3, s3⟩; have HNV := As.mk (nums_out (w := w) A k c (vs.take k) HLV.out HV.out W3 (by omega) (fun x hx => by have := G3 x hx; omega) (((Kp.refl [] w).alloc _).trans K3 (by simp)) (by omega) (by have := nums_len [er, (k : Int)]; simp only [List.length_cons, List.length_nil] at this; omega)); clear W3 G3 K3 s3 HNU)
    | (go_at_call 60; refine HO.out.mono ?_; rintro e w5 ⟨v, rfl, o5, k5⟩; have HO5 := As.mk o5; have HK5 := As.mk k5; clear o5 k5 HO))
  go_ret
  rw [HFIN.out] at HO5
  exact ⟨v, rfl, HO5.out, HK5.out⟩

set_option maxHeartbeats 4000000 in
theorem refRep_any (er : Int) (A : Option Addr) (n c : Nat) (vs : List Int) (w : World) (hn : vs.length = n) (hr : Rd w A (iv .i64 vs)) (hc : n ≤ c) (hnil : A = none → c = 0) (hm : n ≤ 1000000) :
    Calls Try.prog 32 #[.int .i64 er, .slice A n c] w (RetOwn 5 .u8 w (repBytes er vs)) := by
  obtain ⟨k, hk⟩ : ∃ k, k = min n 8 := ⟨_, rfl⟩
  have hk8 : k ≤ n ∧ k ≤ 8 := by omega
  have HV := As.mk (show Rd w A (iv .i64 (vs.take k)) from by have h := hr.take k; rwa [iv_take] at h)
  have HLV : As ((vs.take k).length = k) := ⟨by rw [List.length_take]; omega⟩
  obtain ⟨us, hus⟩ : ∃ us, us = [er, (k : Int)] ++ vs.take k := ⟨_, rfl⟩
  obtain ⟨T, hT⟩ : ∃ T, T = 2 + k := ⟨_, rfl⟩
  have HFIN : As (nums us = repBytes er vs) := ⟨by rw [repBytes, hn, ← hk, hus, nums_app]⟩
  have HUS := As.mk hus
  have HT := As.mk hT
  have hT9 : T ≤ 10 := by omega
  have HNIL := As.mk hnil
  have HLU : As (us.length = T) := ⟨by rw [hus, List.length_append, HLV.out, hT]; rfl⟩
  have HNU : As (∀ A3 c3 wX, Rd wX A3 (iv .i64 us) → Calls Try.prog 61 #[.slice A3 T c3] wX (RetOwn 5 .u8 wX (nums us))) := ⟨fun A3 c3 wX r3 => ref.nums_any A3 T c3 us wX HLU.out r3 (by omega)⟩
  by_cases h8 : 8 < n
  · obtain rfl : k = 8 := by omega
    have hsl : ∀ W, (Instr.slice 36 (.slice A n c) none (some (.int .i64 8)) none).run Try.prog W = .ok (.slice A 8 c) W := slice_head htI hzI A n c 8 (by omega) hnil
    clear hr hn hnil hk hus hT
    go_enter Try.func32, Try.ntmps32
    go_wp2_with (first
      | (at_builtin; refine app64 rfl (.tmp 13) (.tmp 14) rfl (.slice (some ⟨w.heap.size, 0, none⟩) 2 2) 2 [.int .i64 er, .int .i64 8] rfl (own_new w [.int .i64 er, .int .i64 8] _ (show 2 ≤ maxLen by decide)) A 8 c (iv .i64 (vs.take 8)) rfl (by rw [iv_len, HLV.out]) (((Kp.refl [] w).alloc _).rd_new HV.out (by simp)) HNIL.out (iv_one _ _) (by decide) ?_; intro v2 w2 o2 k2 a2; have o2' : w2.ownsRow 0 3 1 v2 T (iv .i64 us) := (by rw [HUS.out, HT.out, iv_app]; exact o2); obtain ⟨A2, c2, rfl, _, _, r2, _⟩ := own_rd o2'; have HK2 : As (Kp [] w w2) := ⟨kp_lit k2⟩; have HN2 := As.mk (HNU.out A2 c2 w2 r2); clear o2 k2 a2 o2' r2)
      | (go_at_call 61; refine HN2.out.mono ?_; rintro e w3 ⟨v3, rfl, o3, k3⟩; have HO3 := As.mk (o3.lower HK2.out.size); have HK3 : As (Kp [] w w3) := ⟨HK2.out.trans k3 (by simp)⟩; clear o3 k3))
    go_ret
    rw [HFIN.out] at HO3
    exact ⟨v3, rfl, HO3.out, HK3.out⟩
  · obtain rfl : k = n := by omega
    clear hr hn hnil hk hus hT
    go_enter Try.func32, Try.ntmps32
    go_wp2_with (first
      | (at_builtin; refine app64 rfl (.tmp 13) (.tmp 14) rfl (.slice (some ⟨w.heap.size, 0, none⟩) 2 2) 2 [.int .i64 er, .int .i64 (k : Int)] rfl (own_new w [.int .i64 er, .int .i64 (k : Int)] _ (show 2 ≤ maxLen by decide)) A k c (iv .i64 (vs.take k)) rfl (by rw [iv_len, HLV.out]) (((Kp.refl [] w).alloc _).rd_new HV.out (by simp)) HNIL.out (iv_one _ _) (by omega) ?_; intro v2 w2 o2 k2 a2; have o2' : w2.ownsRow 0 3 1 v2 T (iv .i64 us) := (by rw [HUS.out, HT.out, iv_app]; exact o2); obtain ⟨A2, c2, rfl, _, _, r2, _⟩ := own_rd o2'; have HK2 : As (Kp [] w w2) := ⟨kp_lit k2⟩; have HN2 := As.mk (HNU.out A2 c2 w2 r2); clear o2 k2 a2 o2' r2)
      | (go_at_call 61; refine HN2.out.mono ?_; rintro e w3 ⟨v3, rfl, o3, k3⟩; have HO3 := As.mk (o3.lower HK2.out.size); have HK3 : As (Kp [] w w3) := ⟨HK2.out.trans k3 (by simp)⟩; clear o3 k3))
    go_ret
    rw [HFIN.out] at HO3
    exact ⟨v3, rfl, HO3.out, HK3.out⟩
end Go.Proofs.Ytlknlpiiogmfbaa.opk
