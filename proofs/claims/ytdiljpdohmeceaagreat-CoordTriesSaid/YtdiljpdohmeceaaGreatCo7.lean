/- coord: (*Coord).Put, Delete, Get, Left, Done. -/
import Derived.Test.YtdiljpdohmeceaaGreatCo6
import Derived.Test.YtdiljpdohmeceaaGreatCoK
namespace Go.Proofs.YtdiljpdohmeceaaGreat.co
open Go.RowKit H O opk frame wir

theorem may_any (b m : Nat) (key : ByteArray) (w : World) (hm : key.size = m) : Calls Tryz.prog 27 #[.pointer (some ⟨b, 0, none⟩), .string key] w fun e w' => e = .returned (.int .i64 (if 1 ≤ m ∧ m ≤ 64 then 0 else 1)) ∧ w' = w := by
  by_cases h1 : m < 1
  · have i1 : (m : Int) < 1 := by omega
    rw [if_neg (by omega)]
    go_enter Tryz.func27, Tryz.ntmps27
    go_wp2
    go_ret
    exact ⟨rfl, rfl⟩
  · have i1 : ¬ (m : Int) < 1 := by omega
    by_cases h2 : 64 < m
    · have i2 : (64 : Int) < (m : Int) := by omega
      rw [if_neg (by omega)]
      go_enter Tryz.func27, Tryz.ntmps27
      go_wp2
      go_ret
      exact ⟨rfl, rfl⟩
    · have i2 : ¬ (64 : Int) < (m : Int) := by omega
      rw [if_pos (by omega)]
      go_enter Tryz.func27, Tryz.ntmps27
      go_wp2
      go_ret
      exact ⟨rfl, rfl⟩

set_option maxHeartbeats 4000000 in
set_option maxRecDepth 100000 in
theorem get_any (U : List Nat) (w : World) (L : Lay) (cf : Cfg) (s : Cs) (key : ByteArray) (hC : CoSt U w L cf s) (ok : CsOk cf s) (hj : nextJ s ≤ 900000) :
    Calls Tryz.prog 62 #[.pointer (some ⟨L.b, 0, none⟩), .string key] w (if 1 ≤ key.size ∧ key.size ≤ 64 then NewJ U L cf (nextJ s) 0 (gives s (jGet key)) w else NewJ U L cf 0 1 s w) := by
  have HM := As.mk (may_any L.b key.size key w rfl)
  by_cases h : 1 ≤ key.size ∧ key.size ≤ 64
  · rw [if_pos h] at HM ⊢
    obtain ⟨m, hkm⟩ : ∃ m, key.size = m := ⟨_, rfl⟩
    have hcv := Lib.run_convert_string_bytes (P := Tryz.prog) w 9 24 5 key Tryz.underlying9 Tryz.underlying24 Tryz.underlying5
    rw [hkm] at hcv
    have hlt := hC.lt
    have hrk := rds_bytes (S := L.all ++ U) w 5 key hlt
    have hk1 := kp_bytes (Kp.refl [] w) 5 key
    obtain ⟨w1, hw1⟩ : ∃ w1, Lib.bytesWorld w 5 key = w1 := ⟨_, rfl⟩
    rw [hw1] at hrk hk1 hcv
    obtain ⟨cp, hcp⟩ : ∃ c, grownCap w m 0 5 = c := ⟨_, rfl⟩
    rw [hcp] at hcv
    have hbs : BSl (L.all ++ U) w1 (.slice (some ⟨w.heap.size, 0, none⟩) m cp) (kb key) := ⟨some ⟨w.heap.size, 0, none⟩, cp, by rw [kb_len, hkm], hrk, by rw [kb_len, hkm, ← hcp]; exact grownCap_ge w m 0 5, by rw [← hcp]; exact grownCap_le_maxLen w m 0 5 (by simp [maxLen]; omega), by simp⟩
    have HG := As.mk (gives_new hC ok hk1 (jGet key) (.slice none 0 0) (.slice (some ⟨w.heap.size, 0, none⟩) m cp) (BSl.nil _ _) hbs hj)
    clear hC ok hj hlt hrk hk1 hw1 hcp hbs h hkm
    go_enter Tryz.func62, Tryz.ntmps62
    go_wp2_with (first
      | (go_at_call 27; refine HM.out.mono ?_; rintro e w2 ⟨rfl, rfl⟩; clear HM)
      | (go_at_call 28; refine HG.out.mono ?_; rintro e w3 ⟨rfl, HR⟩; have HR := As.mk HR))
    go_ret2
    exact ⟨rfl, HR.out⟩
  · rw [if_neg h] at HM ⊢
    have HC := As.mk hC
    clear hC ok hj h
    go_enter Tryz.func62, Tryz.ntmps62
    go_wp2_with (go_at_call 27; refine HM.out.mono ?_; rintro e w2 ⟨rfl, rfl⟩; clear HM)
    go_ret2
    exact NewJ.no HC.out (Kp.refl _ _) 1

set_option maxHeartbeats 4000000 in
set_option maxRecDepth 100000 in
theorem delete_any (U : List Nat) (w : World) (L : Lay) (cf : Cfg) (s : Cs) (key : ByteArray) (hC : CoSt U w L cf s) (ok : CsOk cf s) (hj : nextJ s ≤ 900000) :
    Calls Tryz.prog 60 #[.pointer (some ⟨L.b, 0, none⟩), .string key] w (if 1 ≤ key.size ∧ key.size ≤ 64 then NewJ U L cf (nextJ s) 0 (gives s (jDel key)) w else NewJ U L cf 0 1 s w) := by
  have HM := As.mk (may_any L.b key.size key w rfl)
  by_cases h : 1 ≤ key.size ∧ key.size ≤ 64
  · rw [if_pos h] at HM ⊢
    have HG := As.mk (gives_new hC ok (Kp.refl [] w) (jDel key) (.slice none 0 0) (.slice none 0 0) (BSl.nil _ _) (BSl.nil _ _) hj)
    clear hC ok hj h
    go_enter Tryz.func60, Tryz.ntmps60
    go_wp2_with (first
      | (go_at_call 27; refine HM.out.mono ?_; rintro e w2 ⟨rfl, rfl⟩; clear HM)
      | (go_at_call 28; refine HG.out.mono ?_; rintro e w3 ⟨rfl, HR⟩; have HR := As.mk HR))
    go_ret2
    exact ⟨rfl, HR.out⟩
  · rw [if_neg h] at HM ⊢
    have HC := As.mk hC
    clear hC ok hj h
    go_enter Tryz.func60, Tryz.ntmps60
    go_wp2_with (go_at_call 27; refine HM.out.mono ?_; rintro e w2 ⟨rfl, rfl⟩; clear HM)
    go_ret2
    exact NewJ.no HC.out (Kp.refl _ _) 1

def putR (s : Cs) (key : ByteArray) (xs : List Int) : Int × Int × Cs :=
  if 1 ≤ key.size ∧ key.size ≤ 64 then (if xs.length ≤ 4096 then ((nextJ s : Int), 0, gives s (jPut key xs)) else (0, 5, s)) else (0, 1, s)
set_option maxHeartbeats 4000000 in
set_option maxRecDepth 100000 in
theorem put_any (U : List Nat) (w : World) (L : Lay) (cf : Cfg) (s : Cs) (key : ByteArray) (A : Option Addr) (n c : Nat) (xs : List Int) (hC : CoSt U w L cf s) (ok : CsOk cf s) (hj : nextJ s ≤ 900000) (hn : xs.length = n) (hr : Rd w A (iv .u8 xs)) (hnil : A = none → c = 0) (h9 : n ≤ 1000000) :
    Calls Tryz.prog 9 #[.pointer (some ⟨L.b, 0, none⟩), .string key, .slice A n c] w (NewJ U L cf (putR s key xs).1 (putR s key xs).2.1 (putR s key xs).2.2 w) := by
  have HM := As.mk (may_any L.b key.size key w rfl)
  have HC := As.mk hC
  by_cases h : 1 ≤ key.size ∧ key.size ≤ 64
  · rw [if_pos h] at HM
    by_cases h2 : n ≤ 4096
    · have e : putR s key xs = ((nextJ s : Int), 0, gives s (jPut key xs)) := by rw [putR, if_pos h, if_pos (by omega)]
      rw [e]
      have i1 : ¬ (4096 : Int) < (n : Int) := by omega
      have HCL : As (Calls Tryz.prog 29 #[.slice A n c] w fun e w1 => ∃ A2 c2, e = .returned (.slice A2 n c2) ∧ As (Calls Tryz.prog 28 #[.pointer (some ⟨L.b, 0, none⟩), .pointer (some ⟨w1.heap.size, 0, none⟩)] (w1.alloc (jobObj (jPut key xs) (.slice A2 n c2) (.slice none 0 0))) (NewJ U L cf (nextJ s) 0 (gives s (jPut key xs)) w))) := ⟨by
        refine (cloneb_any A n c xs w hn hr hnil (by omega)).mono ?_
        rintro e w1 ⟨v, rfl, ho, hk⟩
        obtain ⟨A2, c2, rfl, _⟩ := own_rd ho.1
        rw [hn] at ho ⊢
        have hlt := hC.lt
        exact ⟨A2, c2, rfl, ⟨gives_new hC ok hk (jPut key xs) _ _ (BSl.own ho (fun x hx => .inl (hlt x hx))) (BSl.nil _ _) hj⟩⟩⟩
      clear hC ok hj hn hr hnil h9 h e
      go_enter Tryz.func9, Tryz.ntmps9
      go_wp2_with (first
        | (go_at_call 27; refine HM.out.mono ?_; rintro e w2 ⟨rfl, rfl⟩; clear HM)
        | (go_at_call 29; refine HCL.out.mono ?_; rintro e w1 ⟨A2, c2, rfl, HG⟩)
        | (go_at_call 28; refine HG.out.mono ?_; rintro e w3 ⟨rfl, HR⟩; have HR := As.mk HR))
      go_ret2
      exact ⟨rfl, HR.out⟩
    · have e : putR s key xs = (0, 5, s) := by rw [putR, if_pos h, if_neg (by omega)]
      rw [e]
      have i1 : (4096 : Int) < (n : Int) := by omega
      clear hC ok hj hn hr hnil h9 h e
      go_enter Tryz.func9, Tryz.ntmps9
      go_wp2_with (go_at_call 27; refine HM.out.mono ?_; rintro e w2 ⟨rfl, rfl⟩; clear HM)
      go_ret2
      exact NewJ.no HC.out (Kp.refl _ _) 5
  · rw [if_neg h] at HM
    have e : putR s key xs = (0, 1, s) := by rw [putR, if_neg h]
    rw [e]
    clear hC ok hj hn hr hnil h9 h e
    go_enter Tryz.func9, Tryz.ntmps9
    go_wp2_with (go_at_call 27; refine HM.out.mono ?_; rintro e w2 ⟨rfl, rfl⟩; clear HM)
    go_ret2
    exact NewJ.no HC.out (Kp.refl _ _) 1

theorem left_any (U : List Nat) (w : World) (L : Lay) (cf : Cfg) (s : Cs) (hC : CoSt U w L cf s) : Calls Tryz.prog 10 #[.pointer (some ⟨L.b, 0, none⟩)] w fun e w' => e = .returned (.int .i64 (s.jobs.length : Int)) ∧ w' = w := by
  obtain ⟨κ, VS, VW, VJ, VD, MV, AV, l, h⟩ := hC
  obtain ⟨A, c, hv⟩ := h.jq.form2
  obtain ⟨n, hn⟩ : ∃ n, L.js.length = n := ⟨_, rfl⟩
  rw [hn] at hv
  subst hv
  have b5 : w.cell? ⟨L.b, 5, none⟩ = some (.slice A n c) := blk_cell h.hd 5 rfl
  have HL : As (s.jobs.length = n) := ⟨by rw [← h.jl, hn]⟩
  clear h hn
  go_enter Tryz.func10, Tryz.ntmps10
  go_wp2
  go_ret
  exact ⟨by rw [HL.out]; rfl, rfl⟩

/-- Done's row is handed out -/
def DoneI (U : List Nat) (L : Lay) (cf : Cfg) (s : Cs) (w : World) (e : Ending) (w' : World) : Prop :=
  ∃ v L', e = .returned v ∧ CoSt U w' L' cf { s with done := [] } ∧ Grew w L L' ∧ DoneAt (L'.all ++ U) w' v v.ownBlock s.done ∧ (∀ g, v.ownBlock = some g → g ∉ L'.all ++ U) ∧ Kp L.all w w'
set_option maxHeartbeats 4000000 in
theorem done_any (U : List Nat) (w : World) (L : Lay) (cf : Cfg) (s : Cs) (hC : CoSt U w L cf s) : Calls Tryz.prog 18 #[.pointer (some ⟨L.b, 0, none⟩)] w (DoneI U L cf s w) := by
  obtain ⟨κ, VS, VW, VJ, VD, MV, AV, l, h⟩ := hC
  have b8 : w.cell? ⟨L.b, 8, none⟩ = some VD := blk_cell h.hd 8 rfl
  have f8 := blk_free h.hd 8
  have H := As.mk h
  obtain ⟨vs, ho, hg, hr⟩ := h.dn
  obtain ⟨A, c, rfl, _⟩ := own_rd ho
  have HD := As.mk h.dn
  clear h ho hg hr
  go_enter Tryz.func18, Tryz.ntmps18
  go_wp2
  go_ret
  have h := H.out
  obtain ⟨vs, ho, hg, hr⟩ := HD.out
  let L' : Lay := { L with gd := none }
  have k : Kp [L.b] w (w.setCell ⟨L.b, 8, none⟩ (.slice none 0 0)) := (Kp.refl _ w).setCell (.inl (by simp)) _
  have hall : ∀ x ∈ L'.all, x ∈ L.all := by
    intro x hx
    rcases Lay.mem.1 hx with e | e | e | e | e | e | e | e
    · exact Lay.mem.2 (by simp [show x = L.b from e])
    · exact Lay.mem.2 (by simp [show x = L.gw from e])
    · exact Lay.mem.2 (by simp [show L.gj = some x from e])
    · cases e
    · exact Lay.mem.2 (by simp [show L.ga = some x from e])
    · exact Lay.mem.2 (by simp [show L.gm = some x from e])
    · exact Lay.mem.2 (by simp [show x ∈ L.js from e])
    · exact Lay.mem.2 (by simp [show x ∈ L.az from e])
  have hbm : L.b ∈ L.all := Lay.mem.2 (.inl rfl)
  have hV' : ∀ x ∈ [L.b], x ∈ L.all ++ U ∨ w.heap.size ≤ x := fun x hx => by
    simp only [List.mem_singleton] at hx
    subst hx
    exact .inl (List.mem_append.2 (.inl hbm))
  have hS' : ∀ x ∈ L'.all ++ U, x ∈ L.all ++ U ∨ w.heap.size ≤ x := fun x hx => .inl (by
    rcases List.mem_append.1 hx with e | e
    · exact List.mem_append.2 (.inl (hall x e))
    · exact List.mem_append.2 (.inr e))
  have ne : ∀ x c, κ x = c → c ≠ 1 → x ∉ [L.b] := fun x c hx hc hm => by
    simp only [List.mem_singleton] at hm
    subst hm
    have := h.sep.b
    omega
  refine ⟨_, L', rfl, ⟨κ, VS, VW, VJ, .slice none 0 0, MV, AV, l, ⟨⟨by simpa using h.sep.b, by simpa using h.sep.gw, by simpa using h.sep.gj, fun x e => (by cases e), by simpa using h.sep.ga, by simpa using h.sep.gm, by simpa using h.sep.js, by simpa using h.sep.az, h.sep.jn, h.sep.an, by simpa using h.sep.U⟩,
    heap_setCell_same w L.b 8 _ _ (.slice none 0 0) h.hd, h.sh.kp k hV' hS', ⟨k.own h.wh.1 (fun x e => ?_), h.wh.2⟩, h.jq.kp k (fun x e => ne _ _ (h.sep.gj x e).1 (by decide)), ⟨[], World.ownsRow_nil _ 0 _ 6, rfl, rfl⟩, h.jl,
    fun i j p h1 h2 => (h.ja i j p h1 h2).kp k (ne _ _ (h.sep.js p (List.mem_of_getElem? h2)).1 (by decide)) hV' hS', h.al, fun i a p h1 h2 => (h.aa i a p h1 h2).kp k (ne _ _ (h.sep.az p (List.mem_of_getElem? h2)).1 (by decide)) hV' hS',
    ⟨k.own h.aq.1 (fun x e => ne _ _ (h.sep.ga x (by rw [← h.aq.2]; exact e)).1 (by decide)), h.aq.2⟩, ⟨k.own h.mq.1 (fun x e => ne _ _ (h.sep.gm x (by rw [← h.mq.2.1]; exact e)).1 (by decide)), h.mq.2⟩, h.no⟩⟩, ⟨rfl, fun x hx => .inl (hall x hx)⟩,
    ⟨vs, k.own ho (fun x e => ne _ _ (h.sep.gd x (by rw [← hg]; exact e)).1 (by decide)), rfl, hr.kp k hV' hS'⟩, fun g e hm => ?_, k.mono (fun x hx => .inl (by simp at hx; subst hx; exact hbm))⟩
  · rw [h.wh.2] at e
    cases e
    exact ne _ _ h.sep.gw.1 (by decide)
  · have h4 := h.sep.gd g (by rw [← hg]; exact e)
    rcases List.mem_append.1 hm with e2 | e2
    · rcases Lay.mem.1 e2 with e | e | e | e | e | e | e | e
      · have := h.sep.b; rw [show g = L.b from e] at h4; omega
      · have := h.sep.gw; rw [show g = L.gw from e] at h4; omega
      · have := h.sep.gj g e; omega
      · cases e
      · have := h.sep.ga g e; omega
      · have := h.sep.gm g e; omega
      · have := h.sep.js g e; omega
      · have := h.sep.az g e; omega
    · have := h.sep.U g e2; omega
end Go.Proofs.YtdiljpdohmeceaaGreat.co
