/- frame.headOf, frame.Encode. -/
import Derived.Test.YtiabdeciadfiiaaBase
import Derived.Test.YtiabdeciadfiiaaAppFull
import Derived.Test.YtiabdeciadfiiaaSum
namespace Go.Proofs.Ytiabdeciadfiiaa.frame
open Go.RowKit H O joins

theorem rs_pair {w : World} {A3 A4 : Option Addr} {n3 c3 n4 c4 : Nat} {xs ys : List Int} (h3 : xs.length = n3) (h4 : ys.length = n4) (r3 : Rd w A3 (iv .u8 xs)) (r4 : Rd w A4 (iv .u8 ys)) (l3 : n3 ≤ c3) (l4 : n4 ≤ c4) (e3 : A3 = none → c3 = 0) (e4 : A4 = none → c4 = 0) (u : TypeId) :
    Rs [] (w.alloc (.cells #[.slice A3 n3 c3, .slice A4 n4 c4] u)) (some ⟨w.heap.size, 0, none⟩) [xs, ys] := by
  subst h3 h4
  have k := (Kp.refl [] w).alloc (.cells #[.slice A3 xs.length c3, .slice A4 ys.length c4] u)
  refine Vals.rs (vs := [.slice A3 xs.length c3, .slice A4 ys.length c4]) ⟨rfl, fun j hj => ?_⟩ (rd_new w [.slice A3 xs.length c3, .slice A4 ys.length c4] u)
  match j, hj with
  | 0, _ => exact ⟨A3, c3, rfl, l3, e3, k.rd r3 (fun _ _ => by simp)⟩
  | 1, _ => exact ⟨A4, c4, rfl, l4, e4, k.rd r4 (fun _ _ => by simp)⟩
/-- two rows joined: ahead of it stands a world since which nothing has turned -/
theorem join_pair {w0 w : World} {A3 A4 : Option Addr} {n3 c3 n4 c4 : Nat} {xs ys : List Int} (k0 : Kp [] w0 w) (h3 : xs.length = n3) (h4 : ys.length = n4) (r3 : Rd w A3 (iv .u8 xs)) (r4 : Rd w A4 (iv .u8 ys)) (l3 : n3 ≤ c3) (l4 : n4 ≤ c4) (e3 : A3 = none → c3 = 0) (e4 : A4 = none → c4 = 0)
    (w3 : Wf xs) (w4 : Wf ys) (hb : n3 + n4 ≤ 140737488351232) :
    Calls Try.prog 86 #[.slice (some ⟨w.heap.size, 0, none⟩) 2 2] (w.alloc (.cells #[.slice A3 n3 c3, .slice A4 n4 c4] 26)) fun e w' => ∃ A c, e = .returned (.slice A (n3 + n4) c) ∧ Kp [] w0 w' ∧ Jd (xs ++ ys) w0.heap.size w' (.slice A (n3 + n4) c) ∧ Rd w' A (iv .u8 (xs ++ ys)) ∧ n3 + n4 ≤ c ∧ c ≤ 9223372036854775807 ∧ (A = none → c = 0) := by
  have h := joins.ojoin_any (some ⟨w.heap.size, 0, none⟩) 2 2 [xs, ys] _ rfl (rs_pair h3 h4 r3 r4 l3 l4 e3 e4 26) (Nat.le_refl _) (by
    intro x hx
    simp only [List.mem_cons, List.not_mem_nil, or_false] at hx
    rcases hx with rfl | rfl
    · exact w3
    · exact w4) (by simp; omega) (by decide)
  rw [show [xs, ys].flatten = xs ++ ys from by simp] at h
  refine h.mono ?_
  rintro e w' ⟨v, rfl, K, O⟩
  obtain ⟨A, c, rfl, h1, h2, h5, h6⟩ := joins.post_rd O (n3 + n4) (by rw [List.length_append, h3, h4]) (by omega)
  have hk := k0.alloc (.cells #[.slice A3 n3 c3, .slice A4 n4 c4] 26)
  exact ⟨A, c, rfl, hk.trans K (by simp), (Jd.lower O hk.size), h5, h1, h2, h6⟩
theorem sum_one {w : World} {A : Option Addr} {n c : Nat} {xs : List Int} (hn : xs.length = n) (hr : Rd w A (iv .u8 xs)) (hc : n ≤ c) (hnil : A = none → c = 0) (hw : Wf xs) (hm : n ≤ 140737488351232) :
    Calls Try.prog 89 #[.slice (some ⟨w.heap.size, 0, none⟩) 1 1] (w.alloc (.cells #[.slice A n c] 26)) fun e w' => e = .returned (.int .u32 (crc xs)) ∧ w' = w.alloc (.cells #[.slice A n c] 26) := by
  have h := sum.sum_any (some ⟨w.heap.size, 0, none⟩) 1 1 [xs] [] _ rfl (rs_cell w A xs n c hn hc hnil 26 (RdS.new hr (Kp.refl _ _) (by simp)) (by simp)) (by decide) (by intro x hx; simp only [List.mem_singleton] at hx; subst hx; omega) (by intro x hx; simp only [List.mem_singleton] at hx; subst hx; exact hw)
  rwa [show [xs].flatten = xs from by simp] at h
theorem four_rd (v : Int) (w : World) (h0 : 0 ≤ v) (h1 : v < 4294967296) : Calls Try.prog 88 #[.int .u32 v] w fun e w' => ∃ A, e = .returned (.slice A 4 4) ∧ Rd w' A (iv .u8 (four v)) ∧ Kp [] w w' ∧ (A = none → 4 = 0) := by
  refine (four_any v w h0 h1).mono ?_
  rintro e w' ⟨rfl, rfl⟩
  exact ⟨_, rfl, rd_new w _ _, (Kp.refl [] w).alloc _, by simp⟩

set_option maxHeartbeats 4000000 in
-- PART H
theorem head_any (v : Int) (w : World) (h0 : 0 ≤ v) (h1 : v < 4294967296) : Calls Try.prog 87 #[.int .u32 v] w fun e w' => ∃ A c, e = .returned (.slice A 8 c) ∧ Kp [] w w' ∧ Rd w' A (iv .u8 (head v)) ∧ 8 ≤ c ∧ c ≤ 9223372036854775807 ∧ (A = none → c = 0) := by
  have HF := As.mk (fun wX => four_rd v wX h0 h1)
  have HF1 := As.mk (HF.out w)
  obtain ⟨s, hs⟩ : ∃ s, s = crc (four v) := ⟨_, rfl⟩
  have HS := As.mk hs
  have HSB : As (0 ≤ s ∧ s < 4294967296) := ⟨by rw [hs]; exact crc_le _⟩
  clear hs h0 h1
  go_enter Try.func87, Try.ntmps87
  go_wp2_with (first
    | (go_at_call 86; refine HJ.out.mono ?_; rintro e w6 ⟨A6, c6, rfl, k6, -, r6, h6, h6', n6⟩; have HR6 := As.mk r6; have HK6 := As.mk k6; clear r6 k6)
    | (go_at_call 88; refine HF3.out.mono ?_; rintro e w5 ⟨A5, rfl, r5, k5, n5⟩; have HJ := As.mk (join_pair (HK3.out.trans k5 (by simp)) (four_len v) (four_len s) (k5.rd HR3.out (fun _ _ => by simp)) r5 (Nat.le_refl _) (Nat.le_refl _) HN1.out n5 (four_wf v) (four_wf s) (by decide)); clear r5 k5 n5 HF3 HK3)
    | (go_at_call 89; refine HSM.out.mono ?_; rintro e w3 ⟨rfl, hw3⟩; have HK3 : As (Kp [] w w3) := ⟨by rw [hw3]; exact HK2.out.alloc _⟩; have HR3 := As.mk (hw3 ▸ ((Kp.refl [] w2).alloc _).rd HR12.out (fun _ _ => by simp)); rw [← HS.out]; have HF3 := As.mk (four_rd s w3 HSB.out.1 HSB.out.2); clear hw3 HSM HK2)
    | (go_at_call 88; refine HF2.out.mono ?_; rintro e w2 ⟨A2, rfl, r2, k2, n2⟩; have HK2 : As (Kp [] w w2) := ⟨HK1.out.trans k2 (by simp)⟩; have HR12 := As.mk (k2.rd HR1.out (fun _ _ => by simp)); have HSM := As.mk (sum_one (four_len v) r2 (Nat.le_refl _) n2 (four_wf v) (by decide)); clear r2 k2 n2 HF2)
    | (go_at_call 88; refine HF1.out.mono ?_; rintro e w1 ⟨A1, rfl, r1, k1, n1⟩; have HK1 := As.mk k1; have HR1 := As.mk r1; have HN1 := As.mk n1; have HF2 := As.mk (HF.out w1); clear r1 k1 n1 HF1 HF))
  go_ret
  rw [HS.out] at HR6
  exact ⟨A6, c6, rfl, HK6.out, HR6.out, h6, h6', n6⟩
-- END H

/-- behind Encode -/
def FEnc (p : List Int) (w : World) (e : Ending) (w' : World) : Prop :=
  ∃ A c, e = .returned (.tuple #[.slice A (p.length + 12) c, .int .i64 0]) ∧ Kp [] w w' ∧ Jd (fEnc p) w.heap.size w' (.slice A (p.length + 12) c) ∧ Rd w' A (iv .u8 (fEnc p)) ∧ p.length + 12 ≤ c ∧ c ≤ 9223372036854775807 ∧ (A = none → c = 0)

set_option maxHeartbeats 4000000 in
set_option maxRecDepth 100000 in
theorem enc_any (A : Option Addr) (n c : Nat) (l : List (List Int)) (w : World) (hn : l.length = n) (hr : Rs [] w A l) (hc : n ≤ c) (hw : ∀ x ∈ l, Wf x) (hb : l.flatten.length ≤ 1000000) (hm : n ≤ 140737488351232) :
    Calls Try.prog 81 #[.slice A n c] w (FEnc l.flatten w) := by
  obtain ⟨p, hp⟩ : ∃ p, p = l.flatten := ⟨_, rfl⟩
  obtain ⟨T, hT⟩ : ∃ T, p.length = T := ⟨_, rfl⟩
  have hwp : Wf p := by
    rw [hp]
    intro x hx
    obtain ⟨y, hy, hx⟩ := List.mem_flatten.1 hx
    exact hw y hy x hx
  have HJP : As (∀ wX, Kp [] w wX → Calls Try.prog 86 #[.slice A n c] wX fun e w' => ∃ A1 c1, e = .returned (.slice A1 T c1) ∧ Kp [] wX w' ∧ Rd w' A1 (iv .u8 p) ∧ T ≤ c1 ∧ c1 ≤ 9223372036854775807 ∧ (A1 = none → c1 = 0)) := ⟨fun wX k => by
    refine (joins.ojoin_any A n c l wX hn (hr.kp k (by simp)) hc hw (by omega) hm).mono ?_
    rintro e w' ⟨v, rfl, K, O⟩
    rw [← hp] at O
    obtain ⟨A1, c1, rfl, h1, h2, h3, h4⟩ := joins.post_rd O T hT (by rw [← hT, hp]; omega)
    exact ⟨A1, c1, rfl, K, h3, h1, h2, h4⟩⟩
  rw [← hp] at hb ⊢
  rw [hT] at hb
  obtain ⟨b, hbb⟩ : ∃ b, b = head T ++ p := ⟨_, rfl⟩
  obtain ⟨B, hB⟩ : ∃ B, b.length = B := ⟨_, rfl⟩
  have hBT : B = 8 + T := by rw [← hB, hbb, List.length_append, head_len, hT]
  have hwb : Wf b := by rw [hbb]; exact wf_app (head_wf _) hwp
  obtain ⟨s, hs⟩ : ∃ s, s = crc b := ⟨_, rfl⟩
  have HSB : As (0 ≤ s ∧ s < 4294967296) := ⟨by rw [hs]; exact crc_le _⟩
  have HFE : As (b ++ four s = fEnc p) := ⟨by rw [fEnc, hT, ← hbb, hs]⟩
  have HR := As.mk hr
  have HP := As.mk hp
  have HT := As.mk hT
  have HB := As.mk hB
  have HBB := As.mk hbb
  have HBT := As.mk hBT
  have HWP := As.mk hwp
  have HWB := As.mk hwb
  have HS := As.mk hs
  have HL := As.mk hn
  clear hn hr hw hp hT hB hbb hBT hwp hwb hs
  go_enter Try.func81, Try.ntmps81
  go_wp2
  go_loopw [4, 10] (fun s i wr => ∃ k : Nat, i = .int .i64 (k : Int) ∧ k ≤ n ∧ s = .int .i64 (((l.take k).flatten.length : Nat) : Int) ∧ As (wr = w)) (fun _ i _ => n - (intOf i).toNat)
  case atStart => exact ⟨0, rfl, by omega, rfl, ⟨rfl⟩⟩
  case round =>
    obtain ⟨k, rfl, hk, rfl, ⟨rfl⟩⟩ := hrel
    by_cases hlt : k < n
    · have hlx : k < l.length := by rw [HL.out]; exact hlt
      obtain ⟨a, Aj, cj, rfl, _, d0, hcj, _, _⟩ := HR.out k hlx
      have hfs := congrArg List.length (joins.flat_step l k hlx)
      have hfl := joins.flat_le l (k + 1)
      rw [← HP.out, HT.out] at hfl
      rw [List.length_append] at hfs
      obtain ⟨len, hlen⟩ : ∃ len, l[k].length = len := ⟨_, rfl⟩
      obtain ⟨acc, hacc⟩ : ∃ acc, (l.take k).flatten.length = acc := ⟨_, rfl⟩
      obtain ⟨acc', hacc'⟩ : ∃ acc', (l.take (k + 1)).flatten.length = acc' := ⟨_, rfl⟩
      rw [hlen] at d0 hcj hfs
      rw [hacc, hacc'] at hfs
      rw [hacc'] at hfl
      rw [hacc]
      have HA' := As.mk hacc'
      have HFS := As.mk hfs
      have HFL : acc + len ≤ T := by omega
      clear hfs hfl hlen hacc hacc'
      go_wp2
      go_roundw
      case rel => exact ⟨k + 1, by go_num, by omega, by rw [HA'.out, HFS.out]; go_num, ⟨trivial⟩⟩
      case measure => simp [intOf]; omega
    · obtain rfl : k = n := by omega
      have hall : (l.take k).flatten.length = T := by rw [List.take_of_length_le (by rw [HL.out]; exact Nat.le_refl _), ← HP.out, HT.out]
      rw [hall]
      clear hall
      have hT32 : (T : Int) % 4294967296 = T := by omega
      have hwT : IntKind.u32.wrap (T : Int) = T := by rw [IntKind.wrap_u32]; exact hT32
      have HHD := As.mk (head_any (T : Int) wr (by omega) (by omega))
      go_wp2_with (first
        | (go_at_call 87; refine HHD.out.mono ?_; rintro e w1 ⟨A1, c1, rfl, k1, r1, h1, h1', n1⟩; have HK1 := As.mk k1; have HR1 := As.mk r1; have HN1 := As.mk n1; have HJ1 := As.mk (HJP.out w1 k1); clear r1 k1 n1 HHD))
      go_wp2_with (go_at_call 86; refine HJ1.out.mono ?_; rintro e w2 ⟨A2, c2, rfl, k2, r2, h2, h2', n2⟩; have HJ2 := As.mk (join_pair (HK1.out.trans k2 (by simp)) (head_len (T : Int)) HT.out (k2.rd HR1.out (fun _ _ => by simp)) r2 h1 h2 HN1.out n2 (head_wf _) HWP.out (by omega)); rw [← HBB.out, ← HBT.out] at HJ2; clear k2 r2 n2 HJ1)
      go_wp2_with (go_at_call 86; refine HJ2.out.mono ?_; rintro e w3 ⟨A3, c3, rfl, k3, -, r3, h3, h3', n3⟩; have HK3 := As.mk k3; have HR3 := As.mk r3; have HN3 := As.mk n3; have HSM := As.mk (sum_one HB.out r3 h3 n3 HWB.out (by have := HBT.out; omega)); rw [← HS.out] at HSM; clear k3 r3 n3 HJ2)
      go_wp2_with (first
        | (go_at_call 89; refine HSM.out.mono ?_; rintro e w4 ⟨rfl, hw4⟩; have HK4 : As (Kp [] wr w4) := ⟨by rw [hw4]; exact HK3.out.alloc _⟩; have HR4 := As.mk (hw4 ▸ ((Kp.refl [] w3).alloc _).rd HR3.out (fun _ _ => by simp)); have HF4 := As.mk (four_rd s w4 HSB.out.1 HSB.out.2); clear hw4 HSM)
        | (go_at_call 88; refine HF4.out.mono ?_; rintro e w5 ⟨A5, rfl, r5, k5, n5⟩; have HJ3 := As.mk (join_pair (HK4.out.trans k5 (by simp)) HB.out (four_len s) (k5.rd HR4.out (fun _ _ => by simp)) r5 h3 (Nat.le_refl _) HN3.out n5 HWB.out (four_wf s) (by have := HBT.out; omega)); rw [HFE.out] at HJ3; clear r5 k5 n5 HF4)
        | (go_at_call 86; refine HJ3.out.mono ?_; rintro e w6 ⟨A6, c6, rfl, k6, j6, r6, h6, h6', n6⟩; have HJD := As.mk j6; have HR6 := As.mk r6; have HK6 := As.mk k6; have HN6 := As.mk n6; clear r6 k6 j6 n6 HJ3))
      go_ret2
      have e12 : p.length + 12 = B + 4 := by rw [HT.out, HBT.out]; omega
      unfold FEnc
      rw [e12]
      exact ⟨A6, c6, rfl, HK6.out, HJD.out, HR6.out, h6, h6', HN6.out⟩
end Go.Proofs.Ytiabdeciadfiiaa.frame
