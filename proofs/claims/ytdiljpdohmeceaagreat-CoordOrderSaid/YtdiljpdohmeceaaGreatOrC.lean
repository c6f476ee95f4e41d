/- haystacklaw24.CoordOrder: what is sent, read; the answer, written. -/
import Derived.Test.YtdiljpdohmeceaaGreatOrB
import Derived.Test.YtdiljpdohmeceaaGreatBasr
namespace Go.Proofs.YtdiljpdohmeceaaGreat.co
open Go.RowKit H O opk frame wir

theorem and_bit (x : Int) : bits .and .i64 x 1 = 0 ∨ bits .and .i64 x 1 = 1 := by
  have e : bits .and .i64 x 1 = IntKind.i64.wrap ((BitVec.ofInt 64 x &&& BitVec.ofInt 64 1).toNat : Int) := rfl
  have hle : (BitVec.ofInt 64 x &&& BitVec.ofInt 64 1).toNat ≤ 1 := by
    rw [BitVec.toNat_and]
    have : (BitVec.ofInt 64 1).toNat = 1 := by decide
    rw [this]
    exact Nat.and_le_right
  rw [e, IntKind.wrap_i64]
  omega
theorem op_small {a b : Int} {key : ByteArray} {text : List Int} (hk : 1 ≤ key.size ∧ key.size ≤ 64) (ht : text.length ≤ 4096) (hw : Wf text) : (opBytes 1 a b key text).length ≤ 5000 ∧ Wf (opBytes 1 a b key text) := by
  have e1 := nums_len [1, a, b]
  have e2 := rows2_len (kb key) text
  rw [kb_len] at e2
  refine ⟨by rw [opBytes, List.length_append]; simp only [List.length_cons, List.length_nil] at e1; omega, fun y hy => ?_⟩
  rcases List.mem_append.1 hy with e | e
  · exact nums_u8 _ y e
  · obtain ⟨z, hz, hy2⟩ := List.mem_flatMap.1 e
    refine row_u8 z ?_ y hy2
    simp only [List.mem_cons, List.not_mem_nil, or_false] at hz
    rcases hz with rfl | rfl
    · exact kb_wf _
    · exact hw
/-- the request that was sent, read -/
theorem or_dec1 {A : Option Addr} {n c : Nat} {k sh : Int} {dat : List Int} {w : World} (hn : (fEnc (pay 113 [1, k, sh] dat)).length = n) (hr : Rd w A (iv .u8 (fEnc (pay 113 [1, k, sh] dat)))) (hc : n ≤ c) (hk : 0 ≤ k ∧ k ≤ 1000000) (hs : 0 ≤ sh ∧ sh < 2) (hd : dat.length ≤ 5000 ∧ Wf dat) :
    Calls Tryz.prog 12 #[.slice A n c] w fun e w' => ∃ Ad nd cd, e = .returned (.tuple #[.agg #[.int .i64 1, .int .i64 k, .int .i64 sh, .slice Ad nd cd], .int .i64 0]) ∧ As (Own 5 .u8 w' w.heap.size (.slice Ad nd cd) dat ∧ Kp [] w w') := by
  have hl := or_len (mark := 113) (vs := [1, k, sh]) (dat := dat) (by simp) (by omega)
  have hw : Wf (fEnc (pay 113 [1, k, sh] dat)) := fEnc_wf (pay_wf (by omega) hd.2)
  refine (ref22.decReq_any A n c _ w hn hr hc hw (by omega)).mono ?_
  rintro e w' ⟨Ad, nd, cd, rfl, o, kk⟩
  rw [dWReq_enc (ref22.rqOk_iff.2 (by omega)) (by omega)] at o ⊢
  exact ⟨Ad, nd, cd, rfl, ⟨o, kk⟩⟩
/-- the op in it, read -/
theorem or_dec2 {A : Option Addr} {n c lo : Nat} {k : Int} {key : ByteArray} {text : List Int} {w : World} (ho : Own 5 .u8 w lo (.slice A n c) (opBytes 1 12 k key text)) (hk : 0 ≤ k ∧ k ≤ 1000000) (hkk : 1 ≤ key.size ∧ key.size ≤ 64) (ht : text.length ≤ 4096) (hw : Wf text) :
    Calls Tryz.prog 13 #[.slice A n c] w fun e w' => ∃ At ct, e = .returned (.tuple #[.agg #[.int .i64 1, .int .i64 12, .int .i64 k, .string key, .slice At text.length ct], .int .i64 0]) ∧ As (Rd w' At (iv .u8 text) ∧ Kp [] w w') := by
  have hs := op_small (a := 12) (b := k) hkk ht hw
  have hlt := fun g hg => own_lt ho.1 g hg
  obtain ⟨A2, c2, e2, g1, g2, r2, n2⟩ := own_rd ho.1
  cases e2
  refine (ref13.decode_any A _ c _ w rfl r2 g1 g2 n2 (.inl (fun a ha => hlt a.block (by rw [ha]; rfl))) hs.2 (by omega)).mono ?_
  rintro e w' ⟨kd, cl, sq, key2, text2, er, At, nt, ct, hd, rfl, hnt, hrt, _, _, kk⟩
  rw [haystacklaw13.dOpR_ob (opErr_ne.2 ⟨.inl rfl, by rw [Bool.and_eq_true, ref13.within1_iff, ref13.within1_iff]; omega, hkk, ht⟩)] at hd
  cases hd
  subst hnt
  exact ⟨At, ct, rfl, ⟨hrt, kk⟩⟩
/-- the answer, written: an op's, a reply's -/
theorem or_enc1 {y : Int} (w wX : World) (k : Kp [] w wX) : Calls Tryz.prog 16 #[.int .i64 0, .slice (some ⟨wX.heap.size, 0, none⟩) 1 1] (wX.alloc (.cells #[.int .i64 y] 3)) fun e w' => ∃ A1 n1 c1, e = .returned (.slice A1 n1 c1) ∧ As (Rd w' A1 (iv .u8 (repBytes 0 [y])) ∧ (repBytes 0 [y]).length = n1 ∧ (A1 = none → c1 = 0) ∧ Kp [] w w') := by
  refine (refRep_any 0 (some ⟨wX.heap.size, 0, none⟩) 1 1 [y] _ rfl (rd_new wX (iv .i64 [y]) 3) (by decide) (by simp) (by decide)).mono ?_
  rintro e w' ⟨v, rfl, o, kk⟩
  obtain ⟨A1, c1, rfl, _, _, r1, n1⟩ := own_rd o.1
  exact ⟨A1, _, c1, rfl, ⟨r1, rfl, n1, (k.alloc _).trans kk (by simp)⟩⟩
theorem or_enc2 {A : Option Addr} {n c : Nat} {k y : Int} {w : World} (hn : (repBytes 0 [y]).length = n) (hr : Rd w A (iv .u8 (repBytes 0 [y]))) (hnil : A = none → c = 0) (hk : 0 ≤ k ∧ k ≤ 1000000) :
    Calls Tryz.prog 15 #[.agg #[.int .i64 k, .int .i64 0, .int .i64 (-1), .slice A n c]] w fun e w' => ∃ A2 n2 c2, e = .returned (.tuple #[.slice A2 n2 c2, .int .i64 0]) ∧ As (Rd w' A2 (iv .u8 (fEnc (pay 114 [k, 0, 0] (repBytes 0 [y])))) ∧ (fEnc (pay 114 [k, 0, 0] (repBytes 0 [y]))).length = n2 ∧ n2 ≤ c2 ∧ Kp [] w w') := by
  have hl := repBytes_len 0 [y]
  refine (ref22.encReply_ok k 0 (-1) A n c (repBytes 0 [y]) w hn hr hnil (wf_app (nums_u8 _) (nums_u8 _)) (by omega) (by omega) (by omega) (by omega) _ rfl).mono ?_
  rintro e w' ⟨A2, c2, rfl, a, hc⟩
  obtain ⟨A3, c3, e3, _, _, r3, _⟩ := own_rd a.own
  cases e3
  exact ⟨A2, _, c2, rfl, ⟨r3, by rw [fEnc_len]; rfl, hc, a.kp⟩⟩
end Go.Proofs.YtdiljpdohmeceaaGreat.co
