/- haystacklaw8.known: true. -/
import Derived.Test.YtlknlpiiogmfbaaFrameC
import Derived.Test.YtlknlpiiogmfbaaSame8
import Derived.Test.YtlknlpiiogmfbaaUtil8
import Derived.Lib.SlBytesConst
namespace Go.Proofs.Ytlknlpiiogmfbaa.haystacklaw8
open Go.RowKit H O joins frame

theorem known_dec : fDec (fEnc [120] ++ [1]) = ([120], 13, 0) := fDec_enc [1] (by decide)
theorem wf1 {x : Int} (h0 : 0 ≤ x) (h1 : x < 256) : Wf [x] := by
  intro y hy
  simp only [List.mem_singleton] at hy
  omega

set_option maxHeartbeats 8000000 in
theorem known_any (w : World) : Calls Try.prog 15 #[] w fun e w' => e = .returned (.bool true) ∧ Kp [] w w' := by
  have kc := fun (w : World) (C : Array Value) (n c : Nat) => Lib.run_convert_bytes_const (P := Try.prog) w 22 5 C n c Try.underlying22 Try.underlying5
  have HE := As.mk (enc_any (some ⟨w.heap.size + 1, 0, none⟩) 1 1 [[120]] ((w.alloc (.cells (iv .u8 [120]).toArray 5 (1, 2))).alloc (.cells #[.slice (some ⟨w.heap.size, 0, none⟩) 1 1] 22)) rfl
    (rs_one (S := []) w [120] 1 rfl 5 22 (1, 2) (by simp)) (Nat.le_refl _) (by intro x hx; simp only [List.mem_singleton] at hx; subst hx; exact wf1 (by decide) (by decide)) (by decide) (by decide))
  rw [show [[(120 : Int)]].flatten = [120] from rfl] at HE
  go_enter Try.func15, Try.ntmps15
  go_wp2_with (first
    | (go_at_call 13; refine HE.out.mono ?_; rintro e w1 ⟨A1, c1, rfl, k1, j1, r1, h1, h1', n1⟩; have HK1 : As (Kp [] w w1) := ⟨(((Kp.refl [] w).alloc _).alloc _).trans k1 (by simp)⟩; have HJ1 := As.mk (j1.lower (lo' := w.heap.size) (by simp; omega)); clear k1 j1 r1 n1 HE)
    | (at_builtin; refine app_jd rfl (.tmp 14) (.tmp 15) rfl (.slice A1 13 c1) 13 (fEnc [120]) (fEnc_len _) rfl (HK1.out.alloc _) (HJ1.out.kp ((Kp.refl [] w1).alloc _)) (some ⟨w1.heap.size, 0, none⟩) 1 1 [1] rfl rfl (rd_new w1 (iv .u8 [1]) 5) (by simp) (by decide) (by decide) ?_; intro v2 w2 o2 g2 k2; obtain ⟨A2, c2, rfl, hc2, _, R2, _⟩ := own_rd o2; have HK2 := As.mk k2; have HD := As.mk (dec_any A2 14 c2 (fEnc [120] ++ [1]) w2 (by rw [List.length_append, fEnc_len]; rfl) R2 hc2 (wf_app (fEnc_wf (wf1 (by decide) (by decide))) (wf1 (by decide) (by decide))) (by decide)); clear o2 g2 k2 R2)
    | (go_at_call 14; refine HD.out.mono ?_; rintro e w3 ⟨v3, rfl, o3, k3⟩; rw [known_dec] at o3; rw [known_dec]; obtain ⟨A3, c3, rfl, _, _, R3, _⟩ := own_rd o3.1; have HK3 : As (Kp [] w w3) := ⟨HK2.out.trans k3 (by simp)⟩; have HSX : As (∀ wX, Kp [] w3 wX → ∀ A4, Rd wX A4 (iv .u8 [120]) → Calls Try.prog 17 #[.slice A3 1 c3, .slice A4 1 1] wX fun e w' => e = .returned (.bool true) ∧ Kp [] w3 w') := ⟨fun wX k A4 r4 => (same_any A3 A4 1 c3 1 1 [120] [120] wX rfl rfl (k.rd R3 (fun _ _ => by simp)) r4 (by decide)).mono (by rintro e w' ⟨rfl, nk, rfl⟩; exact ⟨rfl, k.drewN _⟩)⟩; clear o3 k3 R3 HD)
    | (go_at_call 17; refine (HSX.out _ ((Kp.refl [] w3).alloc _) _ (rds_mark (S := []) w3 (iv .u8 [120]) 5 (1, 2) (by simp)).rd).mono ?_; rintro e w4 ⟨rfl, k4⟩; have HK4 : As (Kp [] w w4) := ⟨HK3.out.trans k4 (by simp)⟩; clear k4 HSX))
  go_ret
  exact ⟨rfl, HK4.out⟩
end Go.Proofs.Ytlknlpiiogmfbaa.haystacklaw8
