/- An op's bytes tell the op. -/
import Derived.Test.YtlknlpiiogmfbaaOpC
namespace Go.Proofs.Ytlknlpiiogmfbaa.haystacklaw13
open Go.RowKit H O opk

theorem num_inj {a b : Int} {r s : List Int} (ha : 0 ≤ a) (ha2 : a ≤ 4611686018427387904) (hb : 0 ≤ b) (hb2 : b ≤ 4611686018427387904) (h : num a ++ r = num b ++ s) : a = b ∧ r = s := by
  have h1 := stNum_num a r
  rw [h, stNum_num b s] at h1
  have h2 := cl_of ha ha2
  have h3 := cl_of hb hb2
  obtain ⟨h4, h5⟩ := Prod.mk.injEq .. ▸ h1
  exact ⟨by omega, (Option.some.inj h5).symm⟩
theorem row_inj {a b r s : List Int} (ha : a.length ≤ 4611686018427387904) (hb : b.length ≤ 4611686018427387904) (h : row a ++ r = row b ++ s) : a = b ∧ r = s := by
  have h1 := stBytes_row a r ha
  rw [h, stBytes_row b s hb] at h1
  obtain ⟨h4, h5⟩ := Prod.mk.injEq .. ▸ h1
  exact ⟨h4.symm, (Option.some.inj h5).symm⟩
theorem within1_le {x : Int} (h : within1 x = true) : 0 ≤ x ∧ x ≤ 4611686018427387904 := by
  unfold within1 at h
  simp only [Bool.and_eq_true, decide_eq_true_eq] at h
  omega
theorem row_len (x : List Int) : (row x).length ≤ 9 + x.length := by
  have := num_len (x.length : Int)
  simp only [row, List.length_append]
  omega
theorem opBytes_eq (k c s : Int) (key : ByteArray) (x : List Int) : opBytes k c s key x = num k ++ (num c ++ (num s ++ (row (kb key) ++ (row x ++ [])))) := by
  simp [opBytes, nums_cons, nums_nil, rows]
theorem ob_inj' {k1 c1 s1 k2 c2 s2 : Int} {key1 key2 : ByteArray} {x y : List Int} (h1 : 0 ≤ k1 ∧ k1 ≤ 4611686018427387904) (h2 : 0 ≤ c1 ∧ c1 ≤ 4611686018427387904) (h3 : 0 ≤ s1 ∧ s1 ≤ 4611686018427387904)
    (g1 : 0 ≤ k2 ∧ k2 ≤ 4611686018427387904) (g2 : 0 ≤ c2 ∧ c2 ≤ 4611686018427387904) (g3 : 0 ≤ s2 ∧ s2 ≤ 4611686018427387904) (l1 : (kb key1).length ≤ 4611686018427387904) (l2 : (kb key2).length ≤ 4611686018427387904)
    (m1 : x.length ≤ 4611686018427387904) (m2 : y.length ≤ 4611686018427387904) (h : opBytes k1 c1 s1 key1 x = opBytes k2 c2 s2 key2 y) : k1 = k2 ∧ c1 = c2 ∧ s1 = s2 ∧ key1 = key2 ∧ x = y := by
  rw [opBytes_eq, opBytes_eq] at h
  have f1 := num_inj h1.1 h1.2 g1.1 g1.2 h
  have f2 := num_inj h2.1 h2.2 g2.1 g2.2 f1.2
  have f3 := num_inj h3.1 h3.2 g3.1 g3.2 f2.2
  have f4 := row_inj l1 l2 f3.2
  have f5 := row_inj m1 m2 f4.2
  exact ⟨f1.1, f2.1, f3.1, kb_inj f4.1, f5.1⟩
theorem ob_lim {k c s : Int} {m n : Nat} (h : opErr k c s m n = 0) : (0 ≤ k ∧ k ≤ 4611686018427387904) ∧ (0 ≤ c ∧ c ≤ 4611686018427387904) ∧ (0 ≤ s ∧ s ≤ 4611686018427387904) ∧ m ≤ 64 ∧ n ≤ 4096 := by
  obtain ⟨a1, a2, a3, a4⟩ := opErr_ne.1 h
  rw [Bool.and_eq_true] at a2
  have h9 : 0 ≤ k ∧ k ≤ 2 := by omega
  exact ⟨⟨h9.1, Int.le_trans h9.2 (by decide)⟩, within1_le a2.1, within1_le a2.2, a3.2, a4⟩
theorem ob_inj {k1 c1 s1 k2 c2 s2 : Int} {key1 key2 : ByteArray} {x y : List Int} (h1 : opErr k1 c1 s1 key1.size x.length = 0) (h2 : opErr k2 c2 s2 key2.size y.length = 0) :
    opBytes k1 c1 s1 key1 x = opBytes k2 c2 s2 key2 y ↔ (k1 = k2 ∧ c1 = c2 ∧ s1 = s2 ∧ key1 = key2 ∧ x = y) := by
  obtain ⟨a1, a2, a3, a4, a5⟩ := ob_lim h1
  obtain ⟨b1, b2, b3, b4, b5⟩ := ob_lim h2
  constructor
  · exact ob_inj' a1 a2 a3 b1 b2 b3 (by rw [kb_len]; omega) (by rw [kb_len]; omega) (by omega) (by omega)
  · rintro ⟨rfl, rfl, rfl, rfl, rfl⟩
    rfl

theorem encode_good (k cl sq : Int) (key : ByteArray) (A : Option Addr) (n c : Nat) (text : List Int) (w : World) (hn : text.length = n) (hr : Rd w A (iv .u8 text)) (hc : n ≤ c) (hnil : A = none → c = 0) (he : opErr k cl sq key.size text.length = 0)
    (X : List Int) (hX : X = opBytes k cl sq key text) (N : Nat) (hN : X.length = N) :
    Calls Try.prog 27 #[.agg #[.int .i64 k, .int .i64 cl, .int .i64 sq, .string key, .slice A n c]] w fun e w' =>
      ∃ A3 c3, e = .returned (.tuple #[.slice A3 N c3, .int .i64 0]) ∧ Rd w' A3 (iv .u8 X) ∧ Kp [] w w' ∧ N ≤ c3 ∧ c3 ≤ maxLen ∧ (A3 = none → c3 = 0) := by
  have h9 := (opErr_ne.1 he).2.2.2
  refine (encode_any k cl sq key A n c text w hn hr hc hnil (by omega)).mono ?_
  rintro e w' ⟨v, rfl, O, K⟩
  rw [he, if_pos rfl, ← hX] at O
  rw [he]
  obtain ⟨A3, c3, rfl, h1, h2, h3, h4⟩ := own_rd O.1
  rw [hN] at h1 ⊢
  exact ⟨A3, c3, rfl, h3, K, h1, h2, h4⟩
end Go.Proofs.Ytlknlpiiogmfbaa.haystacklaw13
