/- coord: (*Coord).Hear where it does not listen. -/
import Derived.Test.YtdiljpdohmeceaaGreatHeB
import Derived.Test.YtdiljpdohmeceaaGreatBasw
namespace Go.Proofs.YtdiljpdohmeceaaGreat.co
open Go.RowKit H O opk frame wir

/-- nothing has come of it -/
theorem TickPost.nothing {U : List Nat} {w w' : World} {L : Lay} {cf : Cfg} {s : Cs} (hC : CoSt U w L cf s) (k : Kp [] w w') : TickPost U L cf (s, []) w (.returned (.slice none 0 0)) w' :=
  ⟨L, _, rfl, hC.kp k (by simp) (fun x hx => .inl hx), OutI.nil _ _, Grew.refl _ _, k.mono (by simp)⟩
def msgObj (frm dst : Int) (A : Option Addr) (n c : Nat) : Obj := .cells #[.int .i64 frm, .int .i64 dst, .slice A n c] 44
theorem CoP.que0 {U : List Nat} {w : World} {L : Lay} {cf : Cfg} {s : Cs} {κ : Nat → Nat} {VS VW VJ VD MV AV : Value} {l : List (ByteArray × Int)} (h : CoP U w L cf s κ VS VW VJ VD MV AV l) (hj : s.jobs = []) : ∃ A c, VJ = .slice A 0 c := by
  obtain ⟨A, c, rfl⟩ := h.jq.form
  have := h.jl
  rw [hj] at this
  rw [this]
  exact ⟨A, c, rfl⟩

set_option maxHeartbeats 8000000 in
set_option maxRecDepth 100000 in
theorem hear_deaf (U : List Nat) (w : World) (L : Lay) (cf : Cfg) (s : Cs) (frm dst : Int) (A : Option Addr) (n c : Nat) (hC : CoSt U w L cf s) (hd : dst ≠ (cf.id : Int) ∨ frm < 0 ∨ 7 ≤ frm ∨ s.jobs = []) :
    Calls Tryz.prog 17 #[.pointer (some ⟨L.b, 0, none⟩), .agg #[.int .i64 frm, .int .i64 dst, .slice A n c]] w (TickPost U L cf (s, []) w) := by
  have HCS := As.mk hC
  obtain ⟨κ, VS, VW, VJ, VD, MV, AV, l, h⟩ := hC
  obtain ⟨W, hW⟩ : ∃ W, W = w.alloc (msgObj frm dst A n c) := ⟨_, rfl⟩
  have kW : Kp [] w W := by rw [hW]; exact (Kp.refl [] w).alloc _
  have hb : W.heap[w.heap.size]? = some (msgObj frm dst A n c) := by rw [hW]; exact heap_alloc_new w _
  have m0 := blk_cell hb 0 rfl
  have m1 := blk_cell hb 1 rfl
  have b0 := kW.cell (blk_cell h.hd 0 rfl) (by simp)
  have b5 := kW.cell (blk_cell h.hd 5 rfl) (by simp)
  have HK := As.mk kW
  have hnb : ((w.heap.size : Int) == (w.heap.size : Int)) = true := by simp
  clear hnb
  by_cases h1 : dst = (cf.id : Int)
  · have e1 : (dst != (cf.id : Int)) = false := by simp [h1]
    by_cases h2 : frm < 0
    · clear h hb hd kW h1
      unfold msgObj at hW
      go_enter Tryz.func17, Tryz.ntmps17
      go_upto_region 1 with fail
      rw [← hW]
      clear hW
      go_quiet (fail)
      go_wp2_with fail
      go_ret
      exact TickPost.nothing HCS.out (HK.out.drewN _)
    · have e2 : decide (frm < 0) = false := decide_eq_false h2
      by_cases h3 : 7 ≤ frm
      · clear h hb hd kW h1
        unfold msgObj at hW
        go_enter Tryz.func17, Tryz.ntmps17
        go_upto_region 1 with fail
        rw [← hW]
        clear hW
        go_quiet (fail)
        go_wp2_with fail
        go_ret
        exact TickPost.nothing HCS.out (HK.out.drewN _)
      · have e3 : decide (7 ≤ frm) = false := decide_eq_false h3
        have hj : s.jobs = [] := by
          rcases hd with e | e | e | e
          · exact absurd h1 e
          · omega
          · omega
          · exact e
        obtain ⟨AJ, cJ, rfl⟩ := h.que0 hj
        clear h hb hd kW hj h1
        unfold msgObj at hW
        go_enter Tryz.func17, Tryz.ntmps17
        go_upto_region 1 with fail
        rw [← hW]
        clear hW
        go_quiet (fail)
        go_wp2_with fail
        go_ret
        exact TickPost.nothing HCS.out (HK.out.drewN _)
  · have e1 : (dst != (cf.id : Int)) = true := by simpa using h1
    clear h hb hd kW
    unfold msgObj at hW
    go_enter Tryz.func17, Tryz.ntmps17
    go_upto_region 1 with fail
    rw [← hW]
    clear hW
    go_quiet (fail)
    go_wp2_with fail
    go_ret
    exact TickPost.nothing HCS.out (HK.out.drewN _)
end Go.Proofs.YtdiljpdohmeceaaGreat.co
