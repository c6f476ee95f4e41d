/- haystackref24: Put, Delete, Get, Find. -/
import Derived.Test.YtdiljpdohmeceaaGreatCrJ
import Derived.Test.YtdiljpdohmeceaaGreatCo7
namespace Go.Proofs.YtdiljpdohmeceaaGreat.co.cr
open Go.RowKit H O opk frame wir

set_option maxHeartbeats 4000000 in
set_option maxRecDepth 100000 in
theorem get_any (U : List Nat) (w : World) (L : RLay) (cf : Cfg) (s : Cs) (key : ByteArray) (hC : RsSt U w L cf s) (hj : nextJ s ≤ 900000) :
    Calls Tryz.prog 63 #[.pointer (some ⟨L.b, 0, none⟩), .string key] w (if 1 ≤ key.size ∧ key.size ≤ 64 then RNewJ U L cf (nextJ s) 0 (gives s (jGet key)) w else RNewJ U L cf 0 1 s w) := by
  by_cases h : 1 ≤ key.size ∧ key.size ≤ 64
  · rw [if_pos h]
    have HG := As.mk (add_any U w L cf s (jGet key) none 0 0 hC hj rfl (fun j v h => by simp [iv, jGet] at h) (fun _ => rfl) (by omega))
    have HK : As (Calls Tryz.prog 79 #[.string key] w fun e w' => e = .returned (.bool true) ∧ w' = w) := ⟨by have := key_any key w; rw [decide_eq_true h] at this; exact this⟩
    clear hC hj h
    go_enter Tryz.func63, Tryz.ntmps63
    go_wp2_with (first
      | (go_at_call 79; refine HK.out.mono ?_; rintro e w2 ⟨rfl, rfl⟩; clear HK)
      | (go_at_call 95; refine HG.out.mono ?_; rintro e w3 ⟨rfl, HR⟩; have HR := As.mk HR))
    go_ret2
    exact ⟨rfl, HR.out⟩
  · rw [if_neg h]
    have HC := As.mk hC
    have HK : As (Calls Tryz.prog 79 #[.string key] w fun e w' => e = .returned (.bool false) ∧ w' = w) := ⟨by have := key_any key w; rw [decide_eq_false h] at this; exact this⟩
    clear hC hj h
    go_enter Tryz.func63, Tryz.ntmps63
    go_wp2_with (go_at_call 79; refine HK.out.mono ?_; rintro e w2 ⟨rfl, rfl⟩; clear HK)
    go_ret2
    exact RNewJ.no HC.out (Kp.refl _ _) 1
set_option maxHeartbeats 4000000 in
set_option maxRecDepth 100000 in
theorem delete_any (U : List Nat) (w : World) (L : RLay) (cf : Cfg) (s : Cs) (key : ByteArray) (hC : RsSt U w L cf s) (hj : nextJ s ≤ 900000) :
    Calls Tryz.prog 61 #[.pointer (some ⟨L.b, 0, none⟩), .string key] w (if 1 ≤ key.size ∧ key.size ≤ 64 then RNewJ U L cf (nextJ s) 0 (gives s (jDel key)) w else RNewJ U L cf 0 1 s w) := by
  by_cases h : 1 ≤ key.size ∧ key.size ≤ 64
  · rw [if_pos h]
    have HG := As.mk (add_any U w L cf s (jDel key) none 0 0 hC hj rfl (fun j v h => by simp [iv, jDel] at h) (fun _ => rfl) (by omega))
    have HK : As (Calls Tryz.prog 79 #[.string key] w fun e w' => e = .returned (.bool true) ∧ w' = w) := ⟨by have := key_any key w; rw [decide_eq_true h] at this; exact this⟩
    clear hC hj h
    go_enter Tryz.func61, Tryz.ntmps61
    go_wp2_with (first
      | (go_at_call 79; refine HK.out.mono ?_; rintro e w2 ⟨rfl, rfl⟩; clear HK)
      | (go_at_call 95; refine HG.out.mono ?_; rintro e w3 ⟨rfl, HR⟩; have HR := As.mk HR))
    go_ret2
    exact ⟨rfl, HR.out⟩
  · rw [if_neg h]
    have HC := As.mk hC
    have HK : As (Calls Tryz.prog 79 #[.string key] w fun e w' => e = .returned (.bool false) ∧ w' = w) := ⟨by have := key_any key w; rw [decide_eq_false h] at this; exact this⟩
    clear hC hj h
    go_enter Tryz.func61, Tryz.ntmps61
    go_wp2_with (go_at_call 79; refine HK.out.mono ?_; rintro e w2 ⟨rfl, rfl⟩; clear HK)
    go_ret2
    exact RNewJ.no HC.out (Kp.refl _ _) 1
set_option maxHeartbeats 4000000 in
set_option maxRecDepth 100000 in
theorem put_any (U : List Nat) (w : World) (L : RLay) (cf : Cfg) (s : Cs) (key : ByteArray) (A : Option Addr) (n c : Nat) (xs : List Int) (hC : RsSt U w L cf s) (hj : nextJ s ≤ 900000) (hn : xs.length = n) (hr : Rd w A (iv .u8 xs)) (hnil : A = none → c = 0) (h9 : n ≤ 1000000) :
    Calls Tryz.prog 59 #[.pointer (some ⟨L.b, 0, none⟩), .string key, .slice A n c] w (RNewJ U L cf (putR s key xs).1 (putR s key xs).2.1 (putR s key xs).2.2 w) := by
  have HC := As.mk hC
  by_cases h : 1 ≤ key.size ∧ key.size ≤ 64
  · have HK : As (Calls Tryz.prog 79 #[.string key] w fun e w' => e = .returned (.bool true) ∧ w' = w) := ⟨by have := key_any key w; rw [decide_eq_true h] at this; exact this⟩
    by_cases h2 : n ≤ 4096
    · have e : putR s key xs = ((nextJ s : Int), 0, gives s (jPut key xs)) := by rw [putR, if_pos h, if_pos (by omega)]
      rw [e]
      have i1 : ¬ (4096 : Int) < (n : Int) := by omega
      have HG := As.mk (add_any U w L cf s (jPut key xs) A n c hC hj hn hr hnil h9)
      clear hC hj hn hr hnil h9 h e
      go_enter Tryz.func59, Tryz.ntmps59
      go_wp2_with (first
        | (go_at_call 79; refine HK.out.mono ?_; rintro e w2 ⟨rfl, rfl⟩; clear HK)
        | (go_at_call 95; refine HG.out.mono ?_; rintro e w3 ⟨rfl, HR⟩; have HR := As.mk HR))
      go_ret2
      exact ⟨rfl, HR.out⟩
    · have e : putR s key xs = (0, 5, s) := by rw [putR, if_pos h, if_neg (by omega)]
      rw [e]
      have i1 : (4096 : Int) < (n : Int) := by omega
      clear hC hj hn hr hnil h9 h e
      go_enter Tryz.func59, Tryz.ntmps59
      go_wp2_with (go_at_call 79; refine HK.out.mono ?_; rintro e w2 ⟨rfl, rfl⟩; clear HK)
      go_ret2
      exact RNewJ.no HC.out (Kp.refl _ _) 5
  · have HK : As (Calls Tryz.prog 79 #[.string key] w fun e w' => e = .returned (.bool false) ∧ w' = w) := ⟨by have := key_any key w; rw [decide_eq_false h] at this; exact this⟩
    have e : putR s key xs = (0, 1, s) := by rw [putR, if_neg h]
    rw [e]
    clear hC hj hn hr hnil h9 h e
    go_enter Tryz.func59, Tryz.ntmps59
    go_wp2_with (go_at_call 79; refine HK.out.mono ?_; rintro e w2 ⟨rfl, rfl⟩; clear HK)
    go_ret2
    exact RNewJ.no HC.out (Kp.refl _ _) 1
set_option maxHeartbeats 4000000 in
set_option maxRecDepth 100000 in
theorem find_any (U : List Nat) (w : World) (L : RLay) (cf : Cfg) (s : Cs) (A : Option Addr) (n c : Nat) (xs : List Int) (hC : RsSt U w L cf s) (hj : nextJ s ≤ 900000) (hn : xs.length = n) (hr : Rd w A (iv .u8 xs)) (hnil : A = none → c = 0) (h9 : n ≤ 1000000) :
    Calls Tryz.prog 64 #[.pointer (some ⟨L.b, 0, none⟩), .slice A n c] w (if 1 ≤ n ∧ n ≤ 64 then RNewJ U L cf (nextJ s) 0 (gives s (jFind xs)) w else RNewJ U L cf 0 10 s w) := by
  have HC := As.mk hC
  by_cases h1 : 1 ≤ n
  · have i1 : ¬ (n : Int) < 1 := by omega
    by_cases h2 : n ≤ 64
    · rw [if_pos ⟨h1, h2⟩]
      have i2 : ¬ (64 : Int) < (n : Int) := by omega
      have HG := As.mk (add_any U w L cf s (jFind xs) A n c hC hj hn hr hnil h9)
      clear hC hj hn hr hnil h9
      go_enter Tryz.func64, Tryz.ntmps64
      go_wp2_with (go_at_call 95; refine HG.out.mono ?_; rintro e w3 ⟨rfl, HR⟩; have HR := As.mk HR)
      go_ret2
      exact ⟨rfl, HR.out⟩
    · rw [if_neg (by omega)]
      have i2 : (64 : Int) < (n : Int) := by omega
      clear hC hj hn hr hnil h9
      go_enter Tryz.func64, Tryz.ntmps64
      go_wp2_with fail
      go_ret2
      exact RNewJ.no HC.out (Kp.refl _ _) 10
  · rw [if_neg (by omega)]
    have i1 : (n : Int) < 1 := by omega
    clear hC hj hn hr hnil h9
    go_enter Tryz.func64, Tryz.ntmps64
    go_wp2_with fail
    go_ret2
    exact RNewJ.no HC.out (Kp.refl _ _) 10
end Go.Proofs.YtdiljpdohmeceaaGreat.co.cr
