/- MERGED: Co7 CrH CrN CrG CrI CrJ CrK -/
import Derived.Test.YtdiljpdohmeceaaGreatCob
import Derived.Test.YtdiljpdohmeceaaGreatCoa
import Derived.Deep.QuietTactic
import Derived.BigQuiet
import Derived.Deep.RegionLaw
/- coord: (*Coord).Put, Delete, Get, Left, Done. -/
namespace Go.Proofs.YtdiljpdohmeceaaGreat.co
open Go.RowKit H O opk frame wir

theorem may_any (b m : Nat) (key : ByteArray) (w : World) (hm : key.size = m) : Calls Tryz.prog 27 #[.pointer (some ⟨b, 0, none⟩), .string key] w fun e w' => e = .returned (.int .i64 (if 1 ≤ m ∧ m ≤ 64 then 0 else 1)) ∧ w' = w := by
  by_cases h1 : m < 1
  · have i1 : (m : Int) < 1 := by omega
    rw [if_neg (by omega)]
    go_enter Tryz.func27, Tryz.ntmps27
    go_wp2
    go_ret
    exact ⟨rfl, rfl⟩
  · have i1 : ¬ (m : Int) < 1 := by omega
    by_cases h2 : 64 < m
    · have i2 : (64 : Int) < (m : Int) := by omega
      rw [if_neg (by omega)]
      go_enter Tryz.func27, Tryz.ntmps27
      go_wp2
      go_ret
      exact ⟨rfl, rfl⟩
    · have i2 : ¬ (64 : Int) < (m : Int) := by omega
      rw [if_pos (by omega)]
      go_enter Tryz.func27, Tryz.ntmps27
      go_wp2
      go_ret
      exact ⟨rfl, rfl⟩

set_option maxHeartbeats 4000000 in
set_option maxRecDepth 100000 in
theorem get_any (U : List Nat) (w : World) (L : Lay) (cf : Cfg) (s : Cs) (key : ByteArray) (hC : CoSt U w L cf s) (ok : CsOk cf s) (hj : nextJ s ≤ 900000) :
    Calls Tryz.prog 62 #[.pointer (some ⟨L.b, 0, none⟩), .string key] w (if 1 ≤ key.size ∧ key.size ≤ 64 then NewJ U L cf (nextJ s) 0 (gives s (jGet key)) w else NewJ U L cf 0 1 s w) := by
  have HM := As.mk (may_any L.b key.size key w rfl)
  by_cases h : 1 ≤ key.size ∧ key.size ≤ 64
  · rw [if_pos h] at HM ⊢
    obtain ⟨m, hkm⟩ : ∃ m, key.size = m := ⟨_, rfl⟩
    have hcv := Lib.run_convert_string_bytes (P := Tryz.prog) w 9 24 5 key Tryz.underlying9 Tryz.underlying24 Tryz.underlying5
    rw [hkm] at hcv
    have hlt := hC.lt
    have hrk := rds_bytes (S := L.all ++ U) w 5 key hlt
    have hk1 := kp_bytes (Kp.refl [] w) 5 key
    obtain ⟨w1, hw1⟩ : ∃ w1, Lib.bytesWorld w 5 key = w1 := ⟨_, rfl⟩
    rw [hw1] at hrk hk1 hcv
    obtain ⟨cp, hcp⟩ : ∃ c, grownCap w m 0 5 = c := ⟨_, rfl⟩
    rw [hcp] at hcv
    have hbs : BSl (L.all ++ U) w1 (.slice (some ⟨w.heap.size, 0, none⟩) m cp) (kb key) := ⟨some ⟨w.heap.size, 0, none⟩, cp, by rw [kb_len, hkm], hrk, by rw [kb_len, hkm, ← hcp]; exact grownCap_ge w m 0 5, by rw [← hcp]; exact grownCap_le_maxLen w m 0 5 (by simp [maxLen]; omega), by simp⟩
    have HG := As.mk (gives_new hC ok hk1 (jGet key) (.slice none 0 0) (.slice (some ⟨w.heap.size, 0, none⟩) m cp) (BSl.nil _ _) hbs hj)
    clear hC ok hj hlt hrk hk1 hw1 hcp hbs h hkm
    go_enter Tryz.func62, Tryz.ntmps62
    go_wp2_with (first
      | (go_at_call 27; refine HM.out.mono ?_; rintro e w2 ⟨rfl, rfl⟩; clear HM)
      | (go_at_call 28; refine HG.out.mono ?_; rintro e w3 ⟨rfl, HR⟩; have HR := As.mk HR))
    go_ret2
    exact ⟨rfl, HR.out⟩
  · rw [if_neg h] at HM ⊢
    have HC := As.mk hC
    clear hC ok hj h
    go_enter Tryz.func62, Tryz.ntmps62
    go_wp2_with (go_at_call 27; refine HM.out.mono ?_; rintro e w2 ⟨rfl, rfl⟩; clear HM)
    go_ret2
    exact NewJ.no HC.out (Kp.refl _ _) 1

set_option maxHeartbeats 4000000 in
set_option maxRecDepth 100000 in
theorem delete_any (U : List Nat) (w : World) (L : Lay) (cf : Cfg) (s : Cs) (key : ByteArray) (hC : CoSt U w L cf s) (ok : CsOk cf s) (hj : nextJ s ≤ 900000) :
    Calls Tryz.prog 60 #[.pointer (some ⟨L.b, 0, none⟩), .string key] w (if 1 ≤ key.size ∧ key.size ≤ 64 then NewJ U L cf (nextJ s) 0 (gives s (jDel key)) w else NewJ U L cf 0 1 s w) := by
  have HM := As.mk (may_any L.b key.size key w rfl)
  by_cases h : 1 ≤ key.size ∧ key.size ≤ 64
  · rw [if_pos h] at HM ⊢
    have HG := As.mk (gives_new hC ok (Kp.refl [] w) (jDel key) (.slice none 0 0) (.slice none 0 0) (BSl.nil _ _) (BSl.nil _ _) hj)
    clear hC ok hj h
    go_enter Tryz.func60, Tryz.ntmps60
    go_wp2_with (first
      | (go_at_call 27; refine HM.out.mono ?_; rintro e w2 ⟨rfl, rfl⟩; clear HM)
      | (go_at_call 28; refine HG.out.mono ?_; rintro e w3 ⟨rfl, HR⟩; have HR := As.mk HR))
    go_ret2
    exact ⟨rfl, HR.out⟩
  · rw [if_neg h] at HM ⊢
    have HC := As.mk hC
    clear hC ok hj h
    go_enter Tryz.func60, Tryz.ntmps60
    go_wp2_with (go_at_call 27; refine HM.out.mono ?_; rintro e w2 ⟨rfl, rfl⟩; clear HM)
    go_ret2
    exact NewJ.no HC.out (Kp.refl _ _) 1

def putR (s : Cs) (key : ByteArray) (xs : List Int) : Int × Int × Cs :=
  if 1 ≤ key.size ∧ key.size ≤ 64 then (if xs.length ≤ 4096 then ((nextJ s : Int), 0, gives s (jPut key xs)) else (0, 5, s)) else (0, 1, s)
set_option maxHeartbeats 4000000 in
set_option maxRecDepth 100000 in
theorem put_any (U : List Nat) (w : World) (L : Lay) (cf : Cfg) (s : Cs) (key : ByteArray) (A : Option Addr) (n c : Nat) (xs : List Int) (hC : CoSt U w L cf s) (ok : CsOk cf s) (hj : nextJ s ≤ 900000) (hn : xs.length = n) (hr : Rd w A (iv .u8 xs)) (hnil : A = none → c = 0) (h9 : n ≤ 1000000) :
    Calls Tryz.prog 9 #[.pointer (some ⟨L.b, 0, none⟩), .string key, .slice A n c] w (NewJ U L cf (putR s key xs).1 (putR s key xs).2.1 (putR s key xs).2.2 w) := by
  have HM := As.mk (may_any L.b key.size key w rfl)
  have HC := As.mk hC
  by_cases h : 1 ≤ key.size ∧ key.size ≤ 64
  · rw [if_pos h] at HM
    by_cases h2 : n ≤ 4096
    · have e : putR s key xs = ((nextJ s : Int), 0, gives s (jPut key xs)) := by rw [putR, if_pos h, if_pos (by omega)]
      rw [e]
      have i1 : ¬ (4096 : Int) < (n : Int) := by omega
      have HCL : As (Calls Tryz.prog 29 #[.slice A n c] w fun e w1 => ∃ A2 c2, e = .returned (.slice A2 n c2) ∧ As (Calls Tryz.prog 28 #[.pointer (some ⟨L.b, 0, none⟩), .pointer (some ⟨w1.heap.size, 0, none⟩)] (w1.alloc (jobObj (jPut key xs) (.slice A2 n c2) (.slice none 0 0))) (NewJ U L cf (nextJ s) 0 (gives s (jPut key xs)) w))) := ⟨by
        refine (cloneb_any A n c xs w hn hr hnil (by omega)).mono ?_
        rintro e w1 ⟨v, rfl, ho, hk⟩
        obtain ⟨A2, c2, rfl, _⟩ := own_rd ho.1
        rw [hn] at ho ⊢
        have hlt := hC.lt
        exact ⟨A2, c2, rfl, ⟨gives_new hC ok hk (jPut key xs) _ _ (BSl.own ho (fun x hx => .inl (hlt x hx))) (BSl.nil _ _) hj⟩⟩⟩
      clear hC ok hj hn hr hnil h9 h e
      go_enter Tryz.func9, Tryz.ntmps9
      go_wp2_with (first
        | (go_at_call 27; refine HM.out.mono ?_; rintro e w2 ⟨rfl, rfl⟩; clear HM)
        | (go_at_call 29; refine HCL.out.mono ?_; rintro e w1 ⟨A2, c2, rfl, HG⟩)
        | (go_at_call 28; refine HG.out.mono ?_; rintro e w3 ⟨rfl, HR⟩; have HR := As.mk HR))
      go_ret2
      exact ⟨rfl, HR.out⟩
    · have e : putR s key xs = (0, 5, s) := by rw [putR, if_pos h, if_neg (by omega)]
      rw [e]
      have i1 : (4096 : Int) < (n : Int) := by omega
      clear hC ok hj hn hr hnil h9 h e
      go_enter Tryz.func9, Tryz.ntmps9
      go_wp2_with (go_at_call 27; refine HM.out.mono ?_; rintro e w2 ⟨rfl, rfl⟩; clear HM)
      go_ret2
      exact NewJ.no HC.out (Kp.refl _ _) 5
  · rw [if_neg h] at HM
    have e : putR s key xs = (0, 1, s) := by rw [putR, if_neg h]
    rw [e]
    clear hC ok hj hn hr hnil h9 h e
    go_enter Tryz.func9, Tryz.ntmps9
    go_wp2_with (go_at_call 27; refine HM.out.mono ?_; rintro e w2 ⟨rfl, rfl⟩; clear HM)
    go_ret2
    exact NewJ.no HC.out (Kp.refl _ _) 1

theorem left_any (U : List Nat) (w : World) (L : Lay) (cf : Cfg) (s : Cs) (hC : CoSt U w L cf s) : Calls Tryz.prog 10 #[.pointer (some ⟨L.b, 0, none⟩)] w fun e w' => e = .returned (.int .i64 (s.jobs.length : Int)) ∧ w' = w := by
  obtain ⟨κ, VS, VW, VJ, VD, MV, AV, l, h⟩ := hC
  obtain ⟨A, c, hv⟩ := h.jq.form2
  obtain ⟨n, hn⟩ : ∃ n, L.js.length = n := ⟨_, rfl⟩
  rw [hn] at hv
  subst hv
  have b5 : w.cell? ⟨L.b, 5, none⟩ = some (.slice A n c) := blk_cell h.hd 5 rfl
  have HL : As (s.jobs.length = n) := ⟨by rw [← h.jl, hn]⟩
  clear h hn
  go_enter Tryz.func10, Tryz.ntmps10
  go_wp2
  go_ret
  exact ⟨by rw [HL.out]; rfl, rfl⟩

/-- Done's row is handed out -/
def DoneI (U : List Nat) (L : Lay) (cf : Cfg) (s : Cs) (w : World) (e : Ending) (w' : World) : Prop :=
  ∃ v L', e = .returned v ∧ CoSt U w' L' cf { s with done := [] } ∧ Grew w L L' ∧ DoneAt (L'.all ++ U) w' v v.ownBlock s.done ∧ (∀ g, v.ownBlock = some g → g ∉ L'.all ++ U) ∧ Kp L.all w w'
set_option maxHeartbeats 4000000 in
theorem done_any (U : List Nat) (w : World) (L : Lay) (cf : Cfg) (s : Cs) (hC : CoSt U w L cf s) : Calls Tryz.prog 18 #[.pointer (some ⟨L.b, 0, none⟩)] w (DoneI U L cf s w) := by
  obtain ⟨κ, VS, VW, VJ, VD, MV, AV, l, h⟩ := hC
  have b8 : w.cell? ⟨L.b, 8, none⟩ = some VD := blk_cell h.hd 8 rfl
  have f8 := blk_free h.hd 8
  have H := As.mk h
  obtain ⟨vs, ho, hg, hr⟩ := h.dn
  obtain ⟨A, c, rfl, _⟩ := own_rd ho
  have HD := As.mk h.dn
  clear h ho hg hr
  go_enter Tryz.func18, Tryz.ntmps18
  go_wp2
  go_ret
  have h := H.out
  obtain ⟨vs, ho, hg, hr⟩ := HD.out
  let L' : Lay := { L with gd := none }
  have k : Kp [L.b] w (w.setCell ⟨L.b, 8, none⟩ (.slice none 0 0)) := (Kp.refl _ w).setCell (.inl (by simp)) _
  have hall : ∀ x ∈ L'.all, x ∈ L.all := by
    intro x hx
    rcases Lay.mem.1 hx with e | e | e | e | e | e | e | e
    · exact Lay.mem.2 (by simp [show x = L.b from e])
    · exact Lay.mem.2 (by simp [show x = L.gw from e])
    · exact Lay.mem.2 (by simp [show L.gj = some x from e])
    · cases e
    · exact Lay.mem.2 (by simp [show L.ga = some x from e])
    · exact Lay.mem.2 (by simp [show L.gm = some x from e])
    · exact Lay.mem.2 (by simp [show x ∈ L.js from e])
    · exact Lay.mem.2 (by simp [show x ∈ L.az from e])
  have hbm : L.b ∈ L.all := Lay.mem.2 (.inl rfl)
  have hV' : ∀ x ∈ [L.b], x ∈ L.all ++ U ∨ w.heap.size ≤ x := fun x hx => by
    simp only [List.mem_singleton] at hx
    subst hx
    exact .inl (List.mem_append.2 (.inl hbm))
  have hS' : ∀ x ∈ L'.all ++ U, x ∈ L.all ++ U ∨ w.heap.size ≤ x := fun x hx => .inl (by
    rcases List.mem_append.1 hx with e | e
    · exact List.mem_append.2 (.inl (hall x e))
    · exact List.mem_append.2 (.inr e))
  have ne : ∀ x c, κ x = c → c ≠ 1 → x ∉ [L.b] := fun x c hx hc hm => by
    simp only [List.mem_singleton] at hm
    subst hm
    have := h.sep.b
    omega
  refine ⟨_, L', rfl, ⟨κ, VS, VW, VJ, .slice none 0 0, MV, AV, l, ⟨⟨by simpa using h.sep.b, by simpa using h.sep.gw, by simpa using h.sep.gj, fun x e => (by cases e), by simpa using h.sep.ga, by simpa using h.sep.gm, by simpa using h.sep.js, by simpa using h.sep.az, h.sep.jn, h.sep.an, by simpa using h.sep.U⟩,
    heap_setCell_same w L.b 8 _ _ (.slice none 0 0) h.hd, h.sh.kp k hV' hS', ⟨k.own h.wh.1 (fun x e => ?_), h.wh.2⟩, h.jq.kp k (fun x e => ne _ _ (h.sep.gj x e).1 (by decide)), ⟨[], World.ownsRow_nil _ 0 _ 6, rfl, rfl⟩, h.jl,
    fun i j p h1 h2 => (h.ja i j p h1 h2).kp k (ne _ _ (h.sep.js p (List.mem_of_getElem? h2)).1 (by decide)) hV' hS', h.al, fun i a p h1 h2 => (h.aa i a p h1 h2).kp k (ne _ _ (h.sep.az p (List.mem_of_getElem? h2)).1 (by decide)) hV' hS',
    ⟨k.own h.aq.1 (fun x e => ne _ _ (h.sep.ga x (by rw [← h.aq.2]; exact e)).1 (by decide)), h.aq.2⟩, ⟨k.own h.mq.1 (fun x e => ne _ _ (h.sep.gm x (by rw [← h.mq.2.1]; exact e)).1 (by decide)), h.mq.2⟩, h.no⟩⟩, ⟨rfl, fun x hx => .inl (hall x hx)⟩,
    ⟨vs, k.own ho (fun x e => ne _ _ (h.sep.gd x (by rw [← hg]; exact e)).1 (by decide)), rfl, hr.kp k hV' hS'⟩, fun g e hm => ?_, k.mono (fun x hx => .inl (by simp at hx; subst hx; exact hbm))⟩
  · rw [h.wh.2] at e
    cases e
    exact ne _ _ h.sep.gw.1 (by decide)
  · have h4 := h.sep.gd g (by rw [← hg]; exact e)
    rcases List.mem_append.1 hm with e2 | e2
    · rcases Lay.mem.1 e2 with e | e | e | e | e | e | e | e
      · have := h.sep.b; rw [show g = L.b from e] at h4; omega
      · have := h.sep.gw; rw [show g = L.gw from e] at h4; omega
      · have := h.sep.gj g e; omega
      · cases e
      · have := h.sep.ga g e; omega
      · have := h.sep.gm g e; omega
      · have := h.sep.js g e; omega
      · have := h.sep.az g e; omega
    · have := h.sep.U g e2; omega
end Go.Proofs.YtdiljpdohmeceaaGreat.co

/- haystackref24: how the document's one who asks lies in memory. -/
namespace Go.Proofs.YtdiljpdohmeceaaGreat.co.cr
open Go.RowKit H O opk frame wir

/-- a job's cells -/
def RjOk (S : List Nat) (w : World) : List Job → List Value → Prop
  | [], vs => vs = []
  | j :: l, vs => ∃ tv b, vs = [.int .i64 (j.kind : Int), .string j.key, tv] ++ b ∧ BSl S w tv j.text ∧ RjOk S w l b
theorem RjOk.kp {S S2 V : List Nat} {w w1 : World} (k : Kp V w w1) (hV : ∀ x ∈ V, x ∈ S ∨ w.heap.size ≤ x) (hS : ∀ x ∈ S2, x ∈ S ∨ w.heap.size ≤ x) : ∀ {l : List Job} {vs : List Value}, RjOk S w l vs → RjOk S2 w1 l vs
  | [], _, h => h
  | _ :: _, _, ⟨a, b, h1, h2, h3⟩ => ⟨a, b, h1, h2.kp k hV hS, RjOk.kp k hV hS h3⟩
theorem RjOk.snoc {S : List Nat} {w : World} {j : Job} {tv : Value} (hr : BSl S w tv j.text) : ∀ {l : List Job} {vs : List Value}, RjOk S w l vs → RjOk S w (l ++ [j]) (vs ++ [.int .i64 (j.kind : Int), .string j.key, tv])
  | [], vs, h => by
    obtain rfl : vs = [] := h
    exact ⟨tv, [], by simp, hr, rfl⟩
  | _ :: _, _, ⟨p, q, h1, h2, h3⟩ => by
    subst h1
    exact ⟨p, q ++ _, by simp, h2, RjOk.snoc hr h3⟩
theorem RjOk.get {S : List Nat} {w : World} : ∀ {l : List Job} {vs : List Value} {i : Nat} {j : Job}, RjOk S w l vs → l[i]? = some j → ∃ tv, vs[i * 3]? = some (.int .i64 (j.kind : Int)) ∧ vs[i * 3 + 1]? = some (.string j.key) ∧ vs[i * 3 + 2]? = some tv ∧ BSl S w tv j.text
  | [], _, _, _, _, h => by simp at h
  | x :: l, vs, 0, m, ⟨dv, b, h1, h2, _⟩, h => by
    cases h
    subst h1
    exact ⟨dv, rfl, rfl, rfl, h2⟩
  | x :: l, vs, i + 1, m, ⟨dv, b, h1, _, h3⟩, h => by
    subst h1
    obtain ⟨d, g1, g2, g3, g4⟩ := RjOk.get h3 (i := i) (j := m) (by simpa using h)
    refine ⟨d, ?_, ?_, ?_, g4⟩
    · rw [show (i + 1) * 3 = i * 3 + 3 by omega]; exact g1
    · rw [show (i + 1) * 3 + 1 = i * 3 + 1 + 3 by omega]; exact g2
    · rw [show (i + 1) * 3 + 2 = i * 3 + 2 + 3 by omega]; exact g3
/-- an ask's cells -/
def askV (a : Ask) (fv mv' : Value) : List Value := [.int .i64 (a.shard : Int), .int .i64 (a.ctx : Int), fv, .int .i64 (a.tried : Int), .int .i64 (a.waited : Int), .bool a.hinted, .bool a.answered, .bool false, .bool false, .slice none 0 0, mv']
def RaOk (S : List Nat) (w : World) : List Ask → List Value → Prop
  | [], vs => vs = []
  | a :: l, vs => ∃ fv mv' b, vs = askV a fv mv' ++ b ∧ BSl S w fv a.frame ∧ MSl S w mv' a.ms ∧ RaOk S w l b
theorem RaOk.kp {S S2 V : List Nat} {w w1 : World} (k : Kp V w w1) (hV : ∀ x ∈ V, x ∈ S ∨ w.heap.size ≤ x) (hS : ∀ x ∈ S2, x ∈ S ∨ w.heap.size ≤ x) : ∀ {l : List Ask} {vs : List Value}, RaOk S w l vs → RaOk S2 w1 l vs
  | [], _, h => h
  | _ :: _, _, ⟨a, m, b, h1, h2, h3, h4⟩ => ⟨a, m, b, h1, h2.kp k hV hS, h3.kp k hV hS, RaOk.kp k hV hS h4⟩
/-- what ended -/
def RDone (S : List Nat) (w : World) (v : Value) (g : Option Nat) (l : List Res) : Prop :=
  ∃ vs, w.ownsRow 0 138 6 v l.length vs ∧ v.ownBlock = g ∧ RsOk S w l vs
theorem RDone.kp {S S2 V : List Nat} {w w1 : World} {v : Value} {g : Option Nat} {l : List Res} (h : RDone S w v g l) (k : Kp V w w1) (hg : ∀ x, g = some x → x ∉ V) (hV : ∀ x ∈ V, x ∈ S ∨ w.heap.size ≤ x) (hS : ∀ x ∈ S2, x ∈ S ∨ w.heap.size ≤ x) : RDone S2 w1 v g l := by
  obtain ⟨vs, h1, rfl, h3⟩ := h
  exact ⟨vs, k.own h1 hg, rfl, h3.kp k hV hS⟩

structure RLay where
  b : Nat
  gw : Nat
  gL : Option Nat
  ga : Option Nat
  gd : Option Nat
def RLay.all (L : RLay) : List Nat := L.b :: L.gw :: (L.gL.toList ++ L.ga.toList ++ L.gd.toList)
theorem RLay.mem {L : RLay} {x : Nat} : x ∈ L.all ↔ x = L.b ∨ x = L.gw ∨ L.gL = some x ∨ L.ga = some x ∨ L.gd = some x := by
  simp [RLay.all]
structure RSep (U : List Nat) (L : RLay) (κ : Nat → Nat) (n : Nat) : Prop where
  b : κ L.b = 1 ∧ L.b < n
  gw : κ L.gw = 2 ∧ L.gw < n
  gL : ∀ x, L.gL = some x → κ x = 3 ∧ x < n
  ga : ∀ x, L.ga = some x → κ x = 4 ∧ x < n
  gd : ∀ x, L.gd = some x → κ x = 5 ∧ x < n
  U : ∀ x ∈ U, κ x = 0 ∧ x < n
theorem RSep.pos {U : List Nat} {L : RLay} {κ : Nat → Nat} {n x : Nat} (h : RSep U L κ n) (hx : x ∈ L.all) : 1 ≤ κ x ∧ x < n := by
  rcases RLay.mem.1 hx with rfl | rfl | e | e | e
  · have := h.b; omega
  · have := h.gw; omega
  · have := h.gL x e; omega
  · have := h.ga x e; omega
  · have := h.gd x e; omega
theorem RSep.foreign {U U2 : List Nat} {L : RLay} {κ : Nat → Nat} {n m : Nat} (h : RSep U L κ n) (hm : n ≤ m) (hU : ∀ x ∈ U2, x ∈ U ∨ n ≤ x ∧ x < m) : RSep U2 L (fun x => if x < n then κ x else 0) m := by
  have lo : ∀ x c, κ x = c ∧ x < n → (if x < n then κ x else 0) = c ∧ x < m := fun x c hx => by rw [if_pos hx.2]; exact ⟨hx.1, by omega⟩
  refine ⟨lo _ _ h.b, lo _ _ h.gw, fun x e => lo _ _ (h.gL x e), fun x e => lo _ _ (h.ga x e), fun x e => lo _ _ (h.gd x e), fun x hx => ?_⟩
  show (if x < n then κ x else 0) = 0 ∧ x < m
  rcases hU x hx with e | e
  · have := h.U x e
    rw [if_pos this.2]
    exact ⟨this.1, by omega⟩
  · rw [if_neg (by omega)]
    exact ⟨rfl, e.2⟩

/-- whom to ask, as nodes -/
def whomN (cf : Cfg) (whom : List Nat) : List Int := (List.range cf.shards.length).map fun i => dest cf whom i
theorem whomN_len (cf : Cfg) (whom : List Nat) : (whomN cf whom).length = cf.shards.length := by simp [whomN]
/-- the document's one who asks -/
structure RsP (U : List Nat) (w : World) (L : RLay) (cf : Cfg) (s : Cs) (κ : Nat → Nat) (VS VW VL VA VD : Value) : Prop where
  sep : RSep U L κ w.heap.size
  hd : w.heap[L.b]? = some (.cells #[.int .i64 (cf.id : Int), .int .i64 (cf.pat : Int), .int .i64 (cf.tries : Int), VS, VW, VL, .int .i64 (s.ended : Int), VA, .int .i64 (s.ctx : Int), VD] 136 (0, 0))
  sh : Shd (L.all ++ U) w VS cf.shards
  wh : w.ownsRow 0 3 1 VW cf.shards.length (iv .i64 (whomN cf s.whom)) ∧ VW.ownBlock = some L.gw
  jq : ∃ past vs, past.length = s.ended ∧ w.ownsRow 0 168 3 VL (s.ended + s.jobs.length) vs ∧ RjOk (L.all ++ U) w (past ++ s.jobs) vs ∧ VL.ownBlock = L.gL
  aq : ∃ vs, w.ownsRow 0 171 11 VA s.asks.length vs ∧ RaOk (L.all ++ U) w s.asks vs ∧ VA.ownBlock = L.ga
  dn : RDone (L.all ++ U) w VD L.gd s.done
def RsSt (U : List Nat) (w : World) (L : RLay) (cf : Cfg) (s : Cs) : Prop := ∃ κ VS VW VL VA VD, RsP U w L cf s κ VS VW VL VA VD
theorem RsP.kp {U U2 V : List Nat} {w w1 : World} {L : RLay} {cf : Cfg} {s : Cs} {κ : Nat → Nat} {VS VW VL VA VD : Value} (h : RsP U w L cf s κ VS VW VL VA VD) (k : Kp V w w1)
    (hV : ∀ x ∈ V, x ∈ U ∨ w.heap.size ≤ x) (hU : ∀ x ∈ U2, x ∈ U ∨ w.heap.size ≤ x ∧ x < w1.heap.size) : RsP U2 w1 L cf s (fun x => if x < w.heap.size then κ x else 0) VS VW VL VA VD := by
  have nV : ∀ x, x ∈ L.all → x ∉ V := by
    intro x hx hm
    have h1 := h.sep.pos hx
    rcases hV x hm with e | e
    · have := (h.sep.U x e).1; omega
    · omega
  have hV' : ∀ x ∈ V, x ∈ L.all ++ U ∨ w.heap.size ≤ x := fun x hx => (hV x hx).imp (fun e => List.mem_append.2 (.inr e)) id
  have hS' : ∀ x ∈ L.all ++ U2, x ∈ L.all ++ U ∨ w.heap.size ≤ x := by
    intro x hx
    rcases List.mem_append.1 hx with e | e
    · exact .inl (List.mem_append.2 (.inl e))
    · exact (hU x e).imp (fun e => List.mem_append.2 (.inr e)) (fun e => e.1)
  have mem := fun x => (RLay.mem (L := L) (x := x)).2
  obtain ⟨past, vs, j1, j2, j3, j4⟩ := h.jq
  obtain ⟨us, a1, a2, a3⟩ := h.aq
  exact ⟨h.sep.foreign k.size hU, k.blk h.hd (nV _ (mem _ (.inl rfl))), h.sh.kp k hV' hS', ⟨k.own h.wh.1 (fun x e => nV x (mem x (.inr (.inl (by rw [h.wh.2] at e; exact (Option.some.inj e).symm))))), h.wh.2⟩,
    ⟨past, vs, j1, k.own j2 (fun x e => nV x (mem x (by rw [j4] at e; simp [e]))), j3.kp k hV' hS', j4⟩, ⟨us, k.own a1 (fun x e => nV x (mem x (by rw [a3] at e; simp [e]))), a2.kp k hV' hS', a3⟩,
    h.dn.kp k (fun x e => nV x (mem x (by simp [e]))) hV' hS'⟩
theorem RsSt.kp {U U2 V : List Nat} {w w1 : World} {L : RLay} {cf : Cfg} {s : Cs} (h : RsSt U w L cf s) (k : Kp V w w1) (hV : ∀ x ∈ V, x ∈ U ∨ w.heap.size ≤ x) (hU : ∀ x ∈ U2, x ∈ U ∨ w.heap.size ≤ x ∧ x < w1.heap.size) : RsSt U2 w1 L cf s := by
  obtain ⟨κ, VS, VW, VL, VA, VD, h⟩ := h
  exact ⟨_, _, _, _, _, _, h.kp k hV hU⟩
theorem RsSt.lt {U : List Nat} {w : World} {L : RLay} {cf : Cfg} {s : Cs} (h : RsSt U w L cf s) : ∀ x ∈ L.all ++ U, x < w.heap.size := by
  obtain ⟨κ, VS, VW, VL, VA, VD, h⟩ := h
  intro x hx
  rcases List.mem_append.1 hx with e | e
  · exact (h.sep.pos e).2
  · exact (h.sep.U x e).2
def RGrew (w : World) (L L' : RLay) : Prop := L'.b = L.b ∧ ∀ x ∈ L'.all, x ∈ L.all ∨ w.heap.size ≤ x
theorem RGrew.refl (w : World) (L : RLay) : RGrew w L L := ⟨rfl, fun _ h => .inl h⟩

/-! haystackref20 -/
set_option maxHeartbeats 4000000 in
theorem hash_any (key : ByteArray) (w : World) (hz : key.size ≤ 140737488351232) : Calls Tryz.prog 70 #[.string key] w fun e w' => e = .returned (.int .u64 (hashL (kb key))) ∧ w' = w := by
  obtain ⟨m, hkm⟩ : ∃ m, key.size = m := ⟨_, rfl⟩
  have HM := As.mk (show (kb key).length = m by rw [kb_len, hkm])
  rw [hkm] at hz
  have HKM := As.mk hkm
  go_enter Tryz.func70, Tryz.ntmps70
  go_wp2
  go_loop [3, 4] (fun h i => ∃ k : Nat, i = .int .i64 (k : Int) ∧ k ≤ m ∧ h = .int .u64 (hashL ((kb key).take k))) (fun _ i => m - (intOf i).toNat)
  case atStart => exact ⟨0, rfl, by omega, rfl⟩
  case round =>
    obtain ⟨k, rfl, hk, rfl⟩ := hrel
    by_cases hlt : k < m
    · have hlt' : k < (kb key).length := by rw [HM.out]; exact hlt
      have i0 : (0 : Int) ≤ (k : Int) := by omega
      have i1 : (k : Int) < (m : Int) := by omega
      go_wp2
      go_round
      case rel =>
        refine ⟨k + 1, by go_num, by omega, ?_⟩
        have hb : (kb key)[k] = ((key[k]'(by rw [HKM.out]; exact hlt)).toNat : Int) := by simp [kb]; rfl
        have hlt2 : ((key[k]'(by rw [HKM.out]; exact hlt)).toNat : Int) < 256 := by have := (key[k]'(by rw [HKM.out]; exact hlt)).toNat_lt; omega
        rw [hashL_step _ k hlt', hb, hashStep]
        generalize (key[k]'(by rw [HKM.out]; exact hlt)).toNat = c at hlt2 ⊢
        rw [show IntKind.u64.wrap (c : Int) = (c : Int) by rw [IntKind.wrap_u64]; omega]
      case measure => simp [intOf]; omega
    · go_wp2
      go_ret
      have e : (kb key).take k = kb key := List.take_of_length_le (by rw [HM.out]; omega)
      exact ⟨by rw [e]; rfl, rfl⟩
end Go.Proofs.YtdiljpdohmeceaaGreat.co.cr

/- haystackref20.Shard, haystackref15.Group, haystackref24: Left, add, Get. -/
namespace Go.Proofs.YtdiljpdohmeceaaGreat.co.cr
open Go.RowKit H O opk frame wir

theorem shard_any (key : ByteArray) (n : Nat) (w : World) (hz : key.size ≤ 140737488351232) (h1 : 1 ≤ n) (h8 : n ≤ 8) : Calls Tryz.prog 23 #[.string key, .int .i64 (n : Int)] w fun e w' => e = .returned (.tuple #[.int .i64 (shardOf (kb key) n : Int), .int .i64 0]) ∧ w' = w := by
  have hp := hashL_pos (kb key)
  obtain ⟨H, hH⟩ : ∃ H, hashL (kb key) = H := ⟨_, rfl⟩
  have HH : As (∀ wX, Calls Tryz.prog 70 #[.string key] wX fun e w' => e = .returned (.int .u64 H) ∧ w' = wX) := ⟨fun wX => by rw [← hH]; exact hash_any key wX hz⟩
  have HS : As (shardOf (kb key) n = (H % (n : Int)).toNat) := ⟨by rw [shardOf, hH]⟩
  rw [hH] at hp
  obtain ⟨p0, p1⟩ := hp
  have n0 : (0 : Int) < (n : Int) := by omega
  have n1 : ¬ (n : Int) < 1 := by omega
  have n2 : ¬ (8 : Int) < (n : Int) := by omega
  clear hz hH
  go_enter Tryz.func23, Tryz.ntmps23
  go_wp2_with (go_at_call 70; refine (HH.out _).mono ?_; rintro e w2 ⟨rfl, rfl⟩; clear HH)
  go_ret2
  refine ⟨?_, rfl⟩
  have q0 := Int.emod_nonneg H (show (n : Int) ≠ 0 by omega)
  have q1 := Int.emod_lt_of_pos H n0
  have e : wrap64 (H % (n : Int)) = (((H % (n : Int)).toNat : Nat) : Int) := by
    generalize H % (n : Int) = q at q0 q1 ⊢
    rw [wrap64]
    omega
  rw [HS.out, ← e]
  rfl
theorem key_any (key : ByteArray) (w : World) : Calls Tryz.prog 79 #[.string key] w fun e w' => e = .returned (.bool (decide (1 ≤ key.size ∧ key.size ≤ 64))) ∧ w' = w := by
  obtain ⟨n, hn⟩ : ∃ n, key.size = n := ⟨_, rfl⟩
  by_cases h1 : 1 ≤ n
  · have h1' : (1 : Int) ≤ (n : Int) := by omega
    by_cases h2 : n ≤ 64
    · have h2' : (n : Int) ≤ 64 := by omega
      go_enter Tryz.func79, Tryz.ntmps79
      go_wp2
      go_ret
      exact ⟨by rw [decide_eq_true (by omega)]; rfl, rfl⟩
    · have h2' : ¬ (n : Int) ≤ 64 := by omega
      go_enter Tryz.func79, Tryz.ntmps79
      go_wp2
      go_ret
      exact ⟨rfl, rfl⟩
  · have h1' : ¬ (1 : Int) ≤ (n : Int) := by omega
    go_enter Tryz.func79, Tryz.ntmps79
    go_wp2
    go_ret
    exact ⟨rfl, rfl⟩

set_option maxHeartbeats 4000000 in
theorem left_any (U : List Nat) (w : World) (L : RLay) (cf : Cfg) (s : Cs) (hC : RsSt U w L cf s) (hb : s.ended + s.jobs.length ≤ 1000000) : Calls Tryz.prog 69 #[.pointer (some ⟨L.b, 0, none⟩)] w fun e w' => e = .returned (.int .i64 (s.jobs.length : Int)) ∧ ∃ q, w' = w.drewN q := by
  obtain ⟨κ, VS, VW, VL, VA, VD, h⟩ := hC
  obtain ⟨past, vs, h1, h2, h3, h4⟩ := h.jq
  obtain ⟨A, c, rfl, _⟩ := own_rd h2
  obtain ⟨n, hn⟩ : ∃ n, s.jobs.length = n := ⟨_, rfl⟩
  obtain ⟨m, hm⟩ : ∃ n, s.ended = n := ⟨_, rfl⟩
  have hd := h.hd
  rw [hn, hm] at hd hb
  obtain ⟨t, ht⟩ : ∃ t, m + n = t := ⟨_, rfl⟩
  rw [ht] at hd
  have b5 : w.cell? ⟨L.b, 5, none⟩ = some (.slice A t c) := blk_cell hd 5 rfl
  have b6 : w.cell? ⟨L.b, 6, none⟩ = some (.int .i64 (m : Int)) := blk_cell hd 6 rfl
  have HN := As.mk hn
  have i0 : (t : Int) - (m : Int) = (n : Int) := by omega
  have i1 : IntKind.i64.wrap ((t : Int) - (m : Int)) = (n : Int) := by rw [IntKind.wrap_i64]; omega
  clear h h1 h2 h3 h4 hd ht hn hm i0
  go_enter Tryz.func69, Tryz.ntmps69
  go_wp2_with fail
  go_quiet (fail)
  go_wp2_with fail
  go_ret
  exact ⟨by rw [HN.out]; rfl, _, rfl⟩

set_option maxHeartbeats 4000000 in
set_option maxRecDepth 100000 in
theorem group_good (A : Option Addr) (n c : Nat) (xs : List Int) (w : World) (hn : xs.length = n) (hr : Rd w A (iv .i64 xs)) (hg : Grp xs) : Calls Tryz.prog 73 #[.slice A n c] w fun e w' => e = .returned (.bool true) ∧ Kp [] w w' := by
  obtain ⟨⟨h1, h7⟩, hG⟩ := hg
  rw [hn] at h1 h7
  have HR := As.mk hr
  have HN := As.mk hn
  have HG := As.mk hG
  clear hr hn hG
  go_enter Tryz.func73, Tryz.ntmps73
  go_wp2
  go_loopw [3] (fun i wr => ∃ k : Nat, i = .int .i64 (k : Int) ∧ k ≤ n ∧ As (Kp [] w wr)) (fun i _ => n - (intOf i).toNat)
  case atStart => exact ⟨0, rfl, by omega, ⟨Kp.refl _ _⟩⟩
  case round =>
    obtain ⟨k, rfl, hk, HK⟩ := hrel
    by_cases hlt : k < n
    · have hk' : k < xs.length := by rw [HN.out]; exact hlt
      obtain ⟨⟨g0, g1⟩, g2⟩ := HG.out k hk'
      obtain ⟨b, o, rfl, d0⟩ := int_at ((HK.out.rd_new HR.out (by simp))) k hk'
      obtain ⟨y, hy⟩ : ∃ y, xs[k] = y := ⟨_, rfl⟩
      rw [hy] at g0 g1 d0
      have i0 : (0 : Int) ≤ (k : Int) := by omega
      have i1 : (k : Int) < (n : Int) := by omega
      have hd : decide (y < 0) = false := by simpa using g0
      have hd2 : decide (7 ≤ y) = false := by simpa using g1
      by_cases hk0 : k = 0
      · subst hk0
        rw [Nat.add_zero] at d0
        have g9 : ¬ 0 < (0 : Nat) := by omega
        clear g2 hy
        go_wp2
        go_quiet (fail)
        go_wp2
        go_roundw
        case rel => exact ⟨1, by go_num, by omega, ⟨HK.out.drewN _⟩⟩
        case measure => simp [intOf]; omega
      · obtain ⟨j, rfl⟩ : ∃ j, k = j + 1 := ⟨k - 1, by omega⟩
        have g3 := g2 (by omega)
        obtain ⟨_, _, e, d1⟩ := int_at ((HK.out.rd_new HR.out (by simp))) j (by omega)
        cases e
        obtain ⟨z, hz⟩ : ∃ z, xs[j] = z := ⟨_, rfl⟩
        rw [hy] at g3
        have g4 : z < y := by rw [← hz]; exact g3
        rw [hz] at d1
        have i5 : ¬ y ≤ z := by omega
        clear g2 g3 hy hz
        go_wp2
        go_quiet (fail)
        go_wp2
        go_roundw
        case rel => exact ⟨j + 1 + 1, by go_num, by omega, ⟨HK.out.drewN _⟩⟩
        case measure => simp [intOf]; omega
    · have i6 : (n : Int) ≤ 7 := by omega
      go_wp2
      go_ret
      exact ⟨rfl, HK.out⟩
end Go.Proofs.YtdiljpdohmeceaaGreat.co.cr

/- haystackref24.New of groups. -/
namespace Go.Proofs.YtdiljpdohmeceaaGreat.co.cr
open Go.RowKit H O opk frame wir

def firsts (l : List (List Int)) (k : Nat) : List Int := (List.range k).map fun i => (l.getD i []).getD 0 0
theorem firsts_len (l : List (List Int)) (k : Nat) : (firsts l k).length = k := by simp [firsts]
theorem firsts_succ (l : List (List Int)) (k : Nat) : firsts l (k + 1) = firsts l k ++ [(l.getD k []).getD 0 0] := by simp [firsts, List.range_succ]
theorem whomN_new (cf : Cfg) : whomN cf (newCs cf.shards.length).whom = firsts cf.shards cf.shards.length := by
  unfold whomN firsts dest newCs
  apply List.map_congr_left
  intro i hi
  have : i < cf.shards.length := List.mem_range.1 hi
  simp [List.getD, this]
/-- inside New's loop -/
structure NewR (w : World) (id pat tr : Nat) (b k m : Nat) (l : List (List Int)) (wr : World) (VS VW : Value) : Prop where
  blk : wr.heap[b]? = some (.cells #[.int .i64 (id : Int), .int .i64 (pat : Int), .int .i64 (tr : Int), VS, VW, .slice none 0 0, .int .i64 0, .slice none 0 0, .int .i64 0, .slice none 0 0] 136 (0, 0))
  sh : OwnL (b :: VW.ownBlock.toList) wr w.heap.size VS (l.take k)
  gv : ∀ g, VS.ownBlock = some g → g ≠ b ∧ VW.ownBlock ≠ some g
  wh : wr.ownsRow 0 3 1 VW m (iv .i64 (firsts l m))
  gw : ∀ g, VW.ownBlock = some g → g ≠ b ∧ w.heap.size ≤ g
  kp : Kp [] w wr
  lo : w.heap.size ≤ b
theorem NewR.drewN {w wr : World} {id pat tr b k m : Nat} {l : List (List Int)} {VS VW : Value} (h : NewR w id pat tr b k m l wr VS VW) {w2 : World} (k2 : Kp [] wr w2) : NewR w id pat tr b k m l w2 VS VW :=
  ⟨k2.blk h.blk (by simp), h.sh.kp k2 (by simp) (by simp) (fun x hx => .inl hx), h.gv, k2.own h.wh (by simp), h.gw, h.kp.trans k2 (by simp), h.lo⟩
/-- a shard's row comes on -/
theorem NewR.row {w wr w2 w3 : World} {id pat tr b k j m : Nat} {l : List (List Int)} {VS VW : Value} (h : NewR w id pat tr b k j l wr VS VW) {x : List Int} {us : List Value} {A2 : Option Addr} {c2 : Nat} {v3 : Value} (hk : k < l.length) (hx : x = l[k])
    (hu : ∀ wX, Kp [] wr wX → wX.ownsRow 0 53 1 VS k us) (k2 : Kp [] wr w2) (o2 : Own 3 .i64 w2 wr.heap.size (.slice A2 m c2) x) (o3 : w3.ownsRow 0 53 1 v3 (k + 1) (us ++ [.slice A2 m c2]))
    (k3 : Kp VS.ownBlock.toList (w2.alloc (.cells #[.slice A2 m c2] 53)) w3) (a3 : At (w2.heap.size + 1) VS.ownBlock v3.ownBlock) :
    w3.cell? ⟨b, 3, none⟩ = some VS ∧ w3.frozen? ⟨b, 3, none⟩ = false ∧ NewR w id pat tr b (k + 1) j l (w3.setCell ⟨b, 3, none⟩ v3) v3 VW := by
  have hov := h.gv
  have hsz := h.kp.size
  have hs2 := k2.size
  have hbl := lt_of_block h.blk
  have hvb : b ∉ VS.ownBlock.toList := by
    intro e
    exact (hov _ (by simpa using e)).1 rfl
  have hb3 := k3.blk (blk_alloc (k2.blk h.blk (by simp)) _) hvb
  have hu2 : Own 3 .i64 w2 w.heap.size (.slice A2 m c2) x := o2.lower hsz
  have hlk : (l.take k).length = k := by rw [List.length_take]; omega
  have hwl : ∀ g, VW.ownBlock = some g → g < wr.heap.size := fun g e => own_lt h.wh g e
  have hvl : ∀ g, VS.ownBlock = some g → w.heap.size ≤ g ∧ g < wr.heap.size := by
    obtain ⟨us', ho, hlo, _⟩ := h.sh
    exact fun g e => ⟨hlo g e, own_lt ho g e⟩
  have hsnoc : OwnL (b :: VW.ownBlock.toList) w3 w.heap.size v3 (l.take k ++ [x]) := by
    have kA : Kp [] wr (w2.alloc (.cells #[.slice A2 m c2] 53)) := k2.alloc _
    have hL : OwnL (b :: VW.ownBlock.toList) (w2.alloc (.cells #[.slice A2 m c2] 53)) w.heap.size VS (l.take k) := h.sh.kp kA (by simp) (by simp) (fun x hx => .inl hx)
    have kB : Kp [] w2 (w2.alloc (.cells #[.slice A2 m c2] 53)) := (Kp.refl [] w2).alloc _
    refine OwnL.snoc hlk hL (hu _ kA) (hu2.kp kB (by simp)) (fun y hy => ⟨fun hm => ?_, fun e => ?_⟩) o3 k3 (by simpa using a3) (by simp; omega)
    · have h8 := o2.2 y hy
      rcases List.mem_cons.1 hm with e | e
      · omega
      · have := hwl y (by simpa using e)
        omega
    · have h8 := o2.2 y hy
      have h9 := hvl y e
      omega
  have htk : l.take (k + 1) = l.take k ++ [x] := by rw [hx]; exact List.take_succ_eq_append_getElem hk
  have kS : Kp [b] w3 (w3.setCell ⟨b, 3, none⟩ v3) := (Kp.refl _ w3).setCell (.inl (by simp)) _
  have hgv3 : ∀ g, v3.ownBlock = some g → g ≠ b ∧ VW.ownBlock ≠ some g := by
    intro g e
    rcases a3 with e2 | ⟨y, e2, hy⟩
    · rw [e2] at e; exact hov g e
    · rw [e2] at e
      cases e
      refine ⟨by omega, fun e => ?_⟩
      have := hwl _ e
      omega
  have kAll : Kp [] w w3 := (h.kp.trans (k2.alloc _) (by simp)).trans k3 (fun y hy => .inr (by
    have h8 : VS.ownBlock = some y := by simpa using hy
    exact (hvl y h8).1))
  have hlo2 := h.lo
  refine ⟨blk_cell hb3 3 rfl, blk_free hb3 3, ⟨heap_setCell_same w3 b 3 _ _ v3 hb3, ?_, hgv3, ?_, h.gw, kAll.trans kS (by intro y hy; simp at hy; omega), hlo2⟩⟩
  · rw [htk]
    refine hsnoc.kp kS (fun y hy => .inl (by simp at hy; simp [hy])) (fun g e hm => ?_) (fun x hx => .inl hx)
    simp at hm
    exact (hgv3 g e).1 hm
  · refine kS.own (k3.own ((k2.alloc _).own h.wh (by simp)) (fun g e hm => ?_)) (fun g e hm => ?_)
    · exact (hov g (by simpa using hm)).2 e
    · simp at hm
      exact (h.gw g e).1 hm
/-- whom to ask comes on -/
theorem NewR.first {w wr w3 : World} {id pat tr b k j : Nat} {l : List (List Int)} {VS VW : Value} (h : NewR w id pat tr b k j l wr VS VW) {y : Int} {v3 : Value} (hy : (l.getD j []).getD 0 0 = y) {t : TypeId}
    (o3 : w3.ownsRow 0 3 1 v3 (j + 1) (iv .i64 (firsts l j) ++ [.int .i64 y])) (k3 : Kp VW.ownBlock.toList (wr.alloc (.cells #[.int .i64 y] t)) w3) (a3 : At (wr.heap.size + 1) VW.ownBlock v3.ownBlock) :
    w3.cell? ⟨b, 4, none⟩ = some VW ∧ w3.frozen? ⟨b, 4, none⟩ = false ∧ NewR w id pat tr b k (j + 1) l (w3.setCell ⟨b, 4, none⟩ v3) VS v3 := by
  have hsz := h.kp.size
  have hbl := lt_of_block h.blk
  have hvb : b ∉ VW.ownBlock.toList := by
    intro e
    exact (h.gw _ (by simpa using e)).1 rfl
  have hb3 := k3.blk (blk_alloc h.blk _) hvb
  have hwl : ∀ g, VW.ownBlock = some g → g < wr.heap.size := fun g e => own_lt h.wh g e
  have hvl : ∀ g, VS.ownBlock = some g → w.heap.size ≤ g ∧ g < wr.heap.size := by
    obtain ⟨us', ho, hlo, _⟩ := h.sh
    exact fun g e => ⟨hlo g e, own_lt ho g e⟩
  have kA : Kp VW.ownBlock.toList wr w3 := ((Kp.refl VW.ownBlock.toList wr).alloc _).trans k3 (fun x hx => .inl hx)
  have kS : Kp [b] w3 (w3.setCell ⟨b, 4, none⟩ v3) := (Kp.refl _ w3).setCell (.inl (by simp)) _
  have hgw3 : ∀ g, v3.ownBlock = some g → g ≠ b ∧ w.heap.size ≤ g := by
    intro g e
    rcases a3 with e2 | ⟨y, e2, hy⟩
    · rw [e2] at e; exact h.gw g e
    · rw [e2] at e
      cases e
      omega
  have hlo2 := h.lo
  refine ⟨blk_cell hb3 4 rfl, blk_free hb3 4, ⟨heap_setCell_same w3 b 4 _ _ v3 hb3, ?_, ?_, ?_, hgw3, ?_, hlo2⟩⟩
  · have h1 : OwnL (b :: v3.ownBlock.toList) w3 w.heap.size VS (l.take k) := by
      refine h.sh.kp kA (fun x hx => .inl (List.mem_cons_of_mem _ hx)) (fun g e hm => (h.gv g e).2 (by simpa using hm)) (fun x hx => ?_)
      rcases List.mem_cons.1 hx with e | e
      · exact .inl (by simp [e])
      · rcases a3 with e2 | ⟨y, e2, hy⟩
        · rw [e2] at e; exact .inl (List.mem_cons_of_mem _ e)
        · rw [e2] at e
          simp at e
          omega
    exact h1.kp kS (fun y hy => .inl (by simp at hy; simp [hy])) (fun g e hm => by simp at hm; exact (h.gv g e).1 hm) (fun x hx => .inl hx)
  · intro g e
    refine ⟨(h.gv g e).1, fun e3 => ?_⟩
    rcases a3 with e2 | ⟨y, e2, hy⟩
    · rw [e2] at e3; exact (h.gv g e).2 e3
    · rw [e2] at e3
      cases e3
      have := hvl _ e
      omega
  · have e : iv .i64 (firsts l (j + 1)) = iv .i64 (firsts l j) ++ [.int .i64 y] := by rw [firsts_succ, hy, iv_app]; rfl
    rw [e]
    exact kS.own o3 (fun g e hm => by simp at hm; exact (hgw3 g e).1 hm)
  · exact (h.kp.trans kA (fun x hx => .inr ((h.gw x (by simpa using hx)).2))).trans kS (by intro y hy; simp at hy; omega)
theorem NewR.fin {w wr : World} {id pat tr n b : Nat} {l : List (List Int)} {VS VW : Value} (h : NewR w id pat tr b n n l wr VS VW) (hn : l.length = n) (h1 : 1 ≤ n) : ∃ L, L.b = b ∧ (∀ x ∈ L.all, w.heap.size ≤ x) ∧ ∀ (U : List Nat) (_ : ∀ x ∈ U, x < w.heap.size),
    RsSt U wr L ⟨id, pat, tr, l⟩ (newCs n) := by
  subst hn
  obtain ⟨Aw, cw, rfl, hw1, _, _, hw2⟩ := own_rd h.wh
  obtain ⟨aw, rfl⟩ : ∃ a, Aw = some a := by
    cases Aw with
    | none => have := hw2 rfl; omega
    | some a => exact ⟨a, rfl⟩
  have hgw := h.gw aw.block rfl
  have hwl := own_lt h.wh aw.block rfl
  refine ⟨⟨b, aw.block, none, none, none⟩, rfl, fun x hx => ?_, fun U hU => ?_⟩
  · have := h.lo
    simp [RLay.all] at hx
    omega
  have hbl := lt_of_block h.blk
  have hlo := h.lo
  have e : l.take l.length = l := List.take_of_length_le (by omega)
  have hsh := h.sh
  rw [e] at hsh
  obtain ⟨A, c, rfl, h1, h2, h3, h4⟩ := hsh.form
  have hmem : ∀ x ∈ (⟨b, aw.block, none, none, none⟩ : RLay).all ++ U, x = b ∨ x = aw.block ∨ x < w.heap.size := by
    intro x hx
    rcases List.mem_append.1 hx with e | e
    · simp [RLay.all] at e
      rcases e with e | e
      · exact .inl e
      · exact .inr (.inl e)
    · exact .inr (.inr (hU x e))
  refine ⟨fun x => if x = b then 1 else if x = aw.block then 2 else 0, .slice A l.length c, .slice (some aw) l.length cw, .slice none 0 0, .slice none 0 0, .slice none 0 0,
    ⟨⟨by simp, hbl⟩, ⟨by show (if aw.block = b then 1 else if aw.block = aw.block then 2 else 0) = 2; rw [if_neg hgw.1, if_pos rfl], hwl⟩, fun x e => (by cases e), fun x e => (by cases e), fun x e => (by cases e), fun x hx => ?_⟩,
    h.blk, ⟨A, c, rfl, hsh.ri (fun x hx => ?_), h1, h2, h3⟩, ⟨?_, rfl⟩, ⟨[], [], rfl, World.ownsRow_nil _ 0 _ 3, rfl, rfl⟩, ⟨[], World.ownsRow_nil _ 0 _ 11, rfl, rfl⟩, ⟨[], World.ownsRow_nil _ 0 _ 6, rfl, rfl⟩⟩
  · have := hU x hx
    show (if x = b then 1 else if x = aw.block then 2 else 0) = 0 ∧ x < wr.heap.size
    rw [if_neg (by omega), if_neg (by omega)]
    exact ⟨rfl, by omega⟩
  · rcases hmem x hx with e | e | e
    · refine .inl ⟨by simp [e], fun e2 => ?_⟩
      exact (h.gv x (by rw [ownBlock_slice]; exact e2)).1 e
    · refine .inl ⟨by simp [e, Value.ownBlock], fun e2 => ?_⟩
      exact (h.gv x (by rw [ownBlock_slice]; exact e2)).2 (by rw [e]; rfl)
    · exact .inr (.inl e)
  · have e := whomN_new ⟨id, pat, tr, l⟩
    show World.ownsRow wr 0 3 1 (.slice (some aw) l.length cw) l.length (iv .i64 (whomN ⟨id, pat, tr, l⟩ (newCs l.length).whom))
    rw [show newCs l.length = newCs (Cfg.mk id pat tr l).shards.length from rfl, e]
    exact h.wh
end Go.Proofs.YtdiljpdohmeceaaGreat.co.cr

/- haystackref24.New of groups: the walk. -/
namespace Go.Proofs.YtdiljpdohmeceaaGreat.co.cr
open Go.RowKit H O opk frame wir

set_option maxHeartbeats 8000000 in
set_option maxRecDepth 100000 in
theorem new_good (id pat tr : Nat) (A : Option Addr) (n c : Nat) (l : List (List Int)) (w : World) (hn : l.length = n) (hr : Ri [] w A l) (hg : ∀ x ∈ l, Grp x) (h1 : 7 ≤ id ∧ id ≤ 255) (h2 : 1 ≤ pat ∧ pat ≤ 1000) (h3 : 1 ≤ tr ∧ tr ≤ 1000) (h4 : 1 ≤ n ∧ n ≤ 8) :
    Calls Tryz.prog 26 #[.int .i64 (id : Int), .int .i64 (pat : Int), .int .i64 (tr : Int), .slice A n c] w fun e w' => ∃ L, e = .returned (.tuple #[.pointer (some ⟨L.b, 0, none⟩), .int .i64 0]) ∧
      As (∀ U, (∀ x ∈ U, x < w.heap.size) → RsSt U w' L ⟨id, pat, tr, l⟩ (newCs n)) ∧ (∀ x ∈ L.all, w.heap.size ≤ x) ∧ Kp [] w w' := by
  have m0 : ¬ (n : Int) < 1 := by omega
  have m1 : ¬ (n : Int) > 8 := by omega
  have m3 : ¬ (8 : Int) < (n : Int) := by omega
  have m2 : (0 : Int) ≤ (n : Int) := by omega
  have f1 : ¬ (id : Int) < 7 := by omega
  have f2 : ¬ (255 : Int) < (id : Int) := by omega
  have f3 : ¬ (pat : Int) < 1 := by omega
  have f4 : ¬ (1000 : Int) < (pat : Int) := by omega
  have f5 : ¬ (tr : Int) < 1 := by omega
  have f6 : ¬ (1000 : Int) < (tr : Int) := by omega
  have HN := As.mk hn
  have HR := As.mk hr
  have HG := As.mk hg
  clear hn hr hg
  go_enter Tryz.func26, Tryz.ntmps26
  go_wp2_with fail
  have HI0 : As (NewR w id pat tr w.heap.size 0 0 l (w.alloc (.cells #[.int .i64 (id : Int), .int .i64 (pat : Int), .int .i64 (tr : Int), .slice none 0 0, .slice none 0 0, .slice none 0 0, .int .i64 0, .slice none 0 0, .int .i64 0, .slice none 0 0] 136)) (.slice none 0 0) (.slice none 0 0)) := ⟨by
    refine ⟨heap_alloc_new w _, OwnL.nil _ _ _, by simp [Value.ownBlock], World.ownsRow_nil _ 0 _ 1, by simp [Value.ownBlock], (Kp.refl [] w).alloc _, Nat.le_refl _⟩⟩
  go_loopw [11] (fun i wr => ∃ (k : Nat) (VS VW : Value), i = .int .i64 (k : Int) ∧ k ≤ n ∧ As (NewR w id pat tr w.heap.size k k l wr VS VW)) (fun i _ => n - (intOf i).toNat)
  case atStart => exact ⟨0, _, _, rfl, by omega, HI0⟩
  case round =>
    obtain ⟨k, VS, VW, rfl, hk, HI⟩ := hrel
    by_cases hlt : k < n
    · have hlt' : k < l.length := by rw [HN.out]; exact hlt
      obtain ⟨b0, o0, Aj, cj, rfl, _, d0, hcj, hrj⟩ := ri_at HR.out k hlt'
      have hjnil := ri_nil HR.out hlt' d0
      have d1 := HI.out.kp.cell d0 (by simp)
      have D0 := As.mk d0
      obtain ⟨x, hx⟩ : ∃ x, x = l[k] := ⟨_, rfl⟩
      rw [← hx] at d1 hrj hcj
      obtain ⟨m, hm⟩ : ∃ m, x.length = m := ⟨_, rfl⟩
      rw [← hx, hm] at D0
      rw [hm] at d1 hcj
      have hgx : Grp x := by rw [hx]; exact HG.out _ (List.getElem_mem _)
      have HGR := As.mk (group_good Aj m cj x wr hm (HI.out.kp.rd_new hrj.rd (by simp)) hgx)
      have i0 : (0 : Int) ≤ (k : Int) := by omega
      have i1 : (k : Int) < (n : Int) := by omega
      have hm7 := hgx.1
      rw [hm] at hm7
      have i2 : (0 : Int) < (m : Int) := by omega
      have i2n : 0 < m := by omega
      have i3 : ¬ (m : Int) = 0 := by omega
      have hm8 : m ≤ 7 := hm7.2
      obtain ⟨us, ho, hlo, hvs⟩ := HI.out.sh
      have hlk : (l.take k).length = k := by rw [List.length_take]; omega
      rw [hlk] at ho
      obtain ⟨AV, cV, rfl, _⟩ := own_rd ho
      obtain ⟨AW, cW, rfl, _⟩ := own_rd HI.out.wh
      have HUS : As (∀ wX, Kp [] wr wX → wX.ownsRow 0 53 1 (.slice AV k cV) k us) := ⟨fun wX kX => kX.own ho (by simp)⟩
      have HRJ : As (∀ wX, Kp [] wr wX → Rd wX Aj (iv .i64 x)) := ⟨fun wX kX => (HI.out.kp.trans kX (by simp)).rd_new hrj.rd (by simp)⟩
      have HJN := As.mk hjnil
      have HXL := As.mk hm
      have hx0 : 0 < x.length := by omega
      obtain ⟨y, hy⟩ : ∃ y, x[0] = y := ⟨_, rfl⟩
      have HY : As ((l.getD k []).getD 0 0 = y) := ⟨by rw [← hy]; simp [List.getD, hlt', ← hx, hx0]⟩
      obtain ⟨bj, oj, rfl, e0⟩ := int_at (HI.out.kp.rd_new hrj.rd (by simp)) 0 hx0
      rw [Nat.add_zero, hy] at e0
      have E0 : As (w.cell? ⟨bj, oj, none⟩ = some (.int .i64 y)) := ⟨by
        obtain ⟨_, _, e, h⟩ := int_at hrj.rd 0 hx0
        cases e
        rw [Nat.add_zero, hy] at h
        exact h⟩
      have hb := HI.out.blk
      have c3 : wr.cell? ⟨w.heap.size, 3, none⟩ = some (.slice AV k cV) := blk_cell hb 3 rfl
      have HX : As (∃ h : k < l.length, x = l[k]) := ⟨hlt', hx⟩
      clear hjnil hx hrj hcj hm hgx ho hlo hvs hlk d0 hm7 hy hb hx0 hlt'
      go_upto_region 9 with (go_at_call 73; refine HGR.out.mono ?_; rintro e wg ⟨rfl, kg⟩; have HKG := As.mk kg; have c3g := kg.cell c3 (by simp); have d1g := kg.cell d1 (by simp); have e0g := kg.cell e0 (by simp); have lg := World.block_lt_of_cell? wg _ d1g; have ng : ¬ b0 = wg.heap.size := Nat.ne_of_lt lg; have lb := World.block_lt_of_cell? wg _ c3g; have nb : ¬ w.heap.size = wg.heap.size := Nat.ne_of_lt lb; clear kg c3 d1 e0)
      have HFIN : As (∀ w2 A2 c2 v3 w3, Kp [] wr w2 → Own 3 .i64 w2 wr.heap.size (.slice A2 m c2) x → w3.ownsRow 0 53 1 v3 (k + 1) (us ++ [.slice A2 m c2]) → Kp (Value.slice AV k cV).ownBlock.toList (w2.alloc (.cells #[.slice A2 m c2] 53)) w3 → At (w2.heap.size + 1) (Value.slice AV k cV).ownBlock v3.ownBlock →
          w3.cell? ⟨w.heap.size, 3, none⟩ = some (.slice AV k cV) ∧ w3.frozen? ⟨w.heap.size, 3, none⟩ = false ∧ As (NewR w id pat tr w.heap.size (k + 1) k l (w3.setCell ⟨w.heap.size, 3, none⟩ v3) v3 (.slice AW k cW))) := ⟨by
        intro w2 A2 c2 v3 w3 k2 o2 o3 k3 a3
        obtain ⟨hl, hx⟩ := HX.out
        obtain ⟨y0, y1, y2⟩ := HI.out.row hl hx HUS.out k2 o2 o3 k3 a3
        exact ⟨y0, y1, ⟨y2⟩⟩⟩
      have HIN : As (∀ q v6 w6, w6.ownsRow 0 3 1 v6 (0 + m) ([] ++ iv .i64 x) → Kp (Value.slice (some ⟨wg.heap.size, 0, none⟩) 0 0).ownBlock.toList ((wg.drewN q).alloc (.cells #[] 3)) w6 → At (wg.heap.size + 1) (Value.slice (some ⟨wg.heap.size, 0, none⟩) 0 0).ownBlock v6.ownBlock →
          ∃ A2 c2, v6 = .slice A2 m c2 ∧ As (Kp [] wr w6) ∧ As (Own 3 .i64 w6 wr.heap.size (.slice A2 m c2) x) ∧ w6.cell? ⟨w.heap.size, 3, none⟩ = some (.slice AV k cV)) := ⟨by
        intro q v6 w6 o6 k6 a6
        have o6' : w6.ownsRow 0 3 1 v6 m (iv .i64 x) := by simpa using o6
        obtain ⟨A2, c2, rfl, _⟩ := own_rd o6'
        have hs := HKG.out.size
        have k0 : Kp [] wg w6 := (((Kp.refl [] wg).drewN q).alloc _).trans k6 (by intro x hx; simp [Value.ownBlock] at hx; right; omega)
        exact ⟨A2, c2, rfl, ⟨HKG.out.trans k0 (by simp)⟩, ⟨⟨by rw [HXL.out]; exact o6', a6.ge (by omega) (by simp [Value.ownBlock]; omega)⟩⟩, k0.cell c3g (by simp)⟩⟩
      clear HN HG HR HX e0g
      go_cut [61] from 61 to 75 (fun _ wx => ∃ V3 w9, w9 = wx ∧ As (NewR w id pat tr w.heap.size (k + 1) k l w9 V3 (.slice AW k cW)))
      case first =>
        go_region_law (first
          | (refine step_app rfl (.tmp 66) (.tmp 70) 53 rfl 3 (.int .i64 0) 1 8 Tryz.underlying53 info_int rfl (by decide) (.slice (some ⟨wg.heap.size, 0, none⟩) 0 0) 0 [] rfl (own_new wg.drew [] _ (Nat.zero_le _)) (some ⟨bj, oj, none⟩) m cj (iv .i64 x) rfl (by rw [iv_len, HXL.out, Nat.mul_one]) (HRJ.out _ ((HKG.out.drewN _).alloc _)) HJN.out (iv_one _ _) (by omega) (by omega) ?_; intro v6 w6 o6 k6 a6; obtain ⟨A2, c2, rfl, HK2, HO2, c32⟩ := HIN.out _ v6 w6 o6 k6 (by simpa using a6); have n2 : w.heap.size < w6.heap.size := World.block_lt_of_cell? w6 _ c32; have n3 : ¬ w.heap.size = w6.heap.size := Nat.ne_of_lt n2; clear o6 k6 a6)
          | (refine step_app rfl (.tmp 65) (.tmp 72) 79 rfl 53 (.slice none 0 0) 1 24 Tryz.underlying79 info_row rfl (by decide) (.slice AV k cV) k us rfl (HUS.out _ (by first | exact HK2.out.alloc _ | exact (HK2.out.drew.alloc _))) (some ⟨w6.heap.size, 0, none⟩) 1 1 [.slice A2 m c2] rfl rfl (rd_new w6 [.slice A2 m c2] 53) (by simp) (by simp [Value.oneCell']) (by omega) (by omega) ?_; intro v7 w7 o7 k7 a7; obtain ⟨A7, c7, rfl, _⟩ := own_rd o7; obtain ⟨y0, y1, HZ⟩ := HFIN.out w6 A2 c2 _ w7 HK2.out HO2.out o7 k7 (by simpa using a7); clear o7 k7 a7))
        all_goals
          go_wp2_with fail
          go_meet
          exact ⟨_, _, rfl, HZ⟩
      case rest =>
        obtain ⟨V3, w9, rfl, HZ⟩ := hcut
        have hb9 := HZ.out.blk
        have c9 : w9.cell? ⟨w.heap.size, 4, none⟩ = some (.slice AW k cW) := blk_cell hb9 4 rfl
        have d9 := HZ.out.kp.cell D0.out (by simp)
        have e9 := HZ.out.kp.cell E0.out (by simp)
        have l9 := World.block_lt_of_cell? w9 _ d9
        have n9 : ¬ b0 = w9.heap.size := Nat.ne_of_lt l9
        have lj9 := World.block_lt_of_cell? w9 _ e9
        have nj9 : ¬ bj = w9.heap.size := Nat.ne_of_lt lj9
        have lb9 := World.block_lt_of_cell? w9 _ c9
        have nb9 : ¬ w.heap.size = w9.heap.size := Nat.ne_of_lt lb9
        have HOW : As (∀ q, ((w9.drewN q).alloc (.cells #[.int .i64 y] 3)).ownsRow 0 3 1 (.slice AW k cW) k (iv .i64 (firsts l k))) := ⟨fun q => (((Kp.refl [] w9).drewN q).alloc _).own HZ.out.wh (by simp)⟩
        have HFIN2 : As (∀ q v3 w3, w3.ownsRow 0 3 1 v3 (k + 1) (iv .i64 (firsts l k) ++ [.int .i64 y]) → Kp (Value.slice AW k cW).ownBlock.toList ((w9.drewN q).alloc (.cells #[.int .i64 y] 3)) w3 → At (w9.heap.size + 1) (Value.slice AW k cW).ownBlock v3.ownBlock →
            w3.cell? ⟨w.heap.size, 4, none⟩ = some (.slice AW k cW) ∧ w3.frozen? ⟨w.heap.size, 4, none⟩ = false ∧ As (NewR w id pat tr w.heap.size (k + 1) (k + 1) l (w3.setCell ⟨w.heap.size, 4, none⟩ v3) V3 v3)) := ⟨fun q v3 w3 o3 k3 a3 => by
          obtain ⟨y0, y1, y2⟩ := (HZ.out.drewN ((Kp.refl [] w9).drewN q)).first HY.out o3 k3 (by simpa using a3)
          exact ⟨y0, y1, ⟨y2⟩⟩⟩
        clear hb9 HIN HFIN HUS HRJ HJN HXL HZ HI D0 E0 HY HKG c3g d1g
        go_upto_region 10 with fail
        go_region_law (refine step_app rfl (.tmp 80) (.tmp 87) 53 rfl 3 (.int .i64 0) 1 8 Tryz.underlying53 info_int rfl (by decide) (.slice AW k cW) k (iv .i64 (firsts l k)) rfl (HOW.out _) (some ⟨w9.heap.size, 0, none⟩) 1 1 [.int .i64 y] rfl rfl (rd_new _ [.int .i64 y] 3) (by simp) (by simp [Value.oneCell']) (by omega) (by omega) ?_; intro v7 w7 o7 k7 a7; obtain ⟨A7, c7, rfl, _⟩ := own_rd o7; obtain ⟨y0, y1, HZ3⟩ := HFIN2.out _ _ w7 o7 k7 (by simpa using a7); clear o7 k7 a7)
        all_goals
          go_wp2_with fail
          go_roundw
          case rel => exact ⟨k + 1, _, _, by go_num, by omega, HZ3⟩
          case measure => simp [intOf]; omega
    · obtain rfl : k = n := by omega
      go_wp2_with fail
      go_ret2
      obtain ⟨L, hb, hlo, h9⟩ := HI.out.fin HN.out (by omega)
      exact ⟨L, by rw [hb]; rfl, ⟨h9⟩, hlo, HI.out.kp⟩
end Go.Proofs.YtdiljpdohmeceaaGreat.co.cr

/- haystackref24: a job comes on: add. -/
namespace Go.Proofs.YtdiljpdohmeceaaGreat.co.cr
open Go.RowKit H O opk frame wir

theorem info_rjob : (Tryz.prog.info? 168).map (fun i => (i.zero, i.size, i.bytes)) = some (some (.agg #[.int .i64 0, .string ByteArray.empty, .slice none 0 0]), 3, 48) := by kernel_rfl
theorem RsP.more {U : List Nat} {w w3 w7 : World} {L : RLay} {cf : Cfg} {s : Cs} {κ : Nat → Nat} {VS VW VL VA VD v7 tv : Value} {vs : List Value} {obj : Obj} {pj : List Job} (h : RsP U w L cf s κ VS VW VL VA VD) (j : Job) (hpj : pj.length = s.ended)
    (hj : RjOk (L.all ++ U) w (pj ++ s.jobs) vs) (k3 : Kp [] w w3) (hB : BSl (L.all ++ U) w3 tv j.text) (hgl : VL.ownBlock = L.gL)
    (o7 : w7.ownsRow 0 168 3 v7 (s.ended + s.jobs.length + 1) (vs ++ [.int .i64 (j.kind : Int), .string j.key, tv])) (k7 : Kp VL.ownBlock.toList (w3.alloc obj) w7) (a7 : At (w3.heap.size + 1) VL.ownBlock v7.ownBlock) :
    w7.cell? ⟨L.b, 5, none⟩ = some VL ∧ w7.frozen? ⟨L.b, 5, none⟩ = false ∧ ∃ κ2, RsP U (w7.setCell ⟨L.b, 5, none⟩ v7) { L with gL := v7.ownBlock } cf (gives s j) κ2 VS VW v7 VA VD := by
  have hsep := h.sep
  have hs3 := k3.size
  have hbl := lt_of_block h.hd
  have hvl : ∀ g, VL.ownBlock = some g → κ g = 3 ∧ g < w.heap.size := fun g e => hsep.gL g (by rw [← hgl]; exact e)
  have nb : L.b ∉ VL.ownBlock.toList := fun e => by
    have e : VL.ownBlock = some L.b := by simpa using e
    have := hvl _ e
    have := hsep.b
    omega
  have kA : Kp VL.ownBlock.toList w3 w7 := ((Kp.refl VL.ownBlock.toList w3).alloc _).trans k7 (fun x hx => .inl hx)
  have hb7 := kA.blk (k3.blk h.hd (by simp)) nb
  have kS : Kp [L.b] w7 (w7.setCell ⟨L.b, 5, none⟩ v7) := (Kp.refl _ w7).setCell (.inl (by simp)) _
  have kB : Kp (L.b :: VL.ownBlock.toList) w3 (w7.setCell ⟨L.b, 5, none⟩ v7) := (kA.mono (fun x hx => .inl (List.mem_cons_of_mem _ hx))).trans kS (fun x hx => .inl (by simp at hx; simp [hx]))
  have kT : Kp (L.b :: VL.ownBlock.toList) w (w7.setCell ⟨L.b, 5, none⟩ v7) := (k3.mono (fun x hx => by simp at hx)).trans kB (fun x hx => .inl hx)
  have ne : ∀ x c, κ x = c → c ≠ 1 → c ≠ 3 → x ∉ L.b :: VL.ownBlock.toList := fun x c hx h1 h3 hm => by
    rcases List.mem_cons.1 hm with e | e
    · subst e; have := hsep.b; omega
    · have := hvl x (by simpa using e); omega
  have hv7 : ∀ g, v7.ownBlock = some g → (VL.ownBlock = some g) ∨ w3.heap.size < g := fun g e => by
    rcases a7 with e2 | ⟨y, e2, hy⟩
    · rw [e2] at e; exact .inl e
    · rw [e2] at e
      cases e
      exact .inr (by omega)
  have hVm : ∀ x ∈ L.b :: VL.ownBlock.toList, x ∈ L.all ++ U := fun x hx => by
    rcases List.mem_cons.1 hx with e | e
    · exact List.mem_append.2 (.inl (RLay.mem.2 (.inl e)))
    · exact List.mem_append.2 (.inl (RLay.mem.2 (.inr (.inr (.inl (by rw [← hgl]; simpa using e))))))
  have hS0 : ∀ x ∈ ({ L with gL := v7.ownBlock } : RLay).all ++ U, x ∈ L.all ++ U ∨ w3.heap.size < x := fun x hx => by
    rcases List.mem_append.1 hx with e | e
    · rcases RLay.mem.1 e with e | e | e | e | e
      · exact .inl (List.mem_append.2 (.inl (RLay.mem.2 (.inl e))))
      · exact .inl (List.mem_append.2 (.inl (RLay.mem.2 (.inr (.inl e)))))
      · rcases hv7 x e with e | e
        · exact .inl (List.mem_append.2 (.inl (RLay.mem.2 (.inr (.inr (.inl (by rw [← hgl]; exact e)))))))
        · exact .inr e
      · exact .inl (List.mem_append.2 (.inl (RLay.mem.2 (.inr (.inr (.inr (.inl e)))))))
      · exact .inl (List.mem_append.2 (.inl (RLay.mem.2 (.inr (.inr (.inr (.inr e)))))))
    · exact .inl (List.mem_append.2 (.inr e))
  have hS' : ∀ x ∈ ({ L with gL := v7.ownBlock } : RLay).all ++ U, x ∈ L.all ++ U ∨ w.heap.size ≤ x := fun x hx => (hS0 x hx).imp id (fun e => by omega)
  have hV' : ∀ x ∈ L.b :: VL.ownBlock.toList, x ∈ L.all ++ U ∨ w.heap.size ≤ x := fun x hx => .inl (hVm x hx)
  have h7 : w3.heap.size + 1 ≤ w7.heap.size := by have := k7.size; simpa using this
  have lo : ∀ x c, κ x = c ∧ x < w.heap.size → (if x < w.heap.size then κ x else if v7.ownBlock = some x then 3 else 0) = c ∧ x < (w7.setCell ⟨L.b, 5, none⟩ v7).heap.size := fun x c hx => by
    rw [if_pos hx.2]
    exact ⟨hx.1, by simp; omega⟩
  refine ⟨blk_cell hb7 5 rfl, blk_free hb7 5, fun x => if x < w.heap.size then κ x else if v7.ownBlock = some x then 3 else 0,
    ⟨lo _ _ hsep.b, lo _ _ hsep.gw, fun x e => ?_, fun x e => lo _ _ (hsep.ga x e), fun x e => lo _ _ (hsep.gd x e), fun x e => lo _ _ (hsep.U x e)⟩,
    heap_setCell_same w7 L.b 5 _ _ v7 hb7, h.sh.kp kT hV' hS', ⟨kT.own h.wh.1 (fun x e => by rw [h.wh.2] at e; cases e; exact ne _ 2 hsep.gw.1 (by decide) (by decide)), h.wh.2⟩, ⟨pj, vs ++ [.int .i64 (j.kind : Int), .string j.key, tv], hpj, ?_, ?_, rfl⟩, ?_,
    h.dn.kp kT (fun x e => ne _ _ (hsep.gd x e).1 (by decide) (by decide)) hV' hS'⟩
  · have e : v7.ownBlock = some x := e
    have hx : x < w7.heap.size := own_lt o7 x e
    rcases hv7 x e with e2 | e2
    · exact lo _ _ (hvl x e2)
    · show (if x < w.heap.size then κ x else if v7.ownBlock = some x then 3 else 0) = 3 ∧ x < (w7.setCell ⟨L.b, 5, none⟩ v7).heap.size
      rw [if_neg (by omega), if_pos e]
      exact ⟨rfl, by simp; exact hx⟩
  · have e : (gives s j).ended + (gives s j).jobs.length = s.ended + s.jobs.length + 1 := by simp [gives]; omega
    rw [e]
    refine kS.own o7 (fun x e hm => ?_)
    simp at hm
    subst hm
    rcases hv7 _ e with e2 | e2
    · exact nb (by simpa using e2)
    · omega
  · show RjOk _ _ (pj ++ (s.jobs ++ [j])) _
    rw [← List.append_assoc]
    exact RjOk.snoc (hB.kp kB (fun x hx => .inl (hVm x hx)) (fun x hx => (hS0 x hx).imp id (fun e => by omega))) (hj.kp kT hV' hS')
  · obtain ⟨us, a1, a2, a3⟩ := h.aq
    exact ⟨us, kT.own a1 (fun x e => ne _ _ (hsep.ga x (by rw [← a3]; exact e)).1 (by decide) (by decide)), a2.kp kT hV' hS', a3⟩

/-- a job came on -/
def RNewJ (U : List Nat) (L : RLay) (cf : Cfg) (n e : Int) (s' : Cs) (w : World) (x : Ending) (w' : World) : Prop :=
  x = .returned (.tuple #[.int .i64 n, .int .i64 e]) ∧ ∃ L', RsSt U w' L' cf s' ∧ RGrew w L L' ∧ Kp L.all w w'
theorem RNewJ.no {U : List Nat} {L : RLay} {cf : Cfg} {s : Cs} {w w' : World} (hC : RsSt U w L cf s) (k : Kp [] w w') (e : Int) : RNewJ U L cf 0 e s w (.returned (.tuple #[.int .i64 0, .int .i64 e])) w' :=
  ⟨rfl, L, hC.kp k (by simp) (fun _ h => .inl h), RGrew.refl _ _, k.mono (by simp)⟩

set_option maxHeartbeats 8000000 in
set_option maxRecDepth 100000 in
theorem add_any (U : List Nat) (w : World) (L : RLay) (cf : Cfg) (s : Cs) (j : Job) (A : Option Addr) (n c : Nat) (hC : RsSt U w L cf s) (hj : nextJ s ≤ 900000) (hn : j.text.length = n) (hr : Rd w A (iv .u8 j.text)) (hnil : A = none → c = 0) (h9 : n ≤ 1000000) :
    Calls Tryz.prog 95 #[.pointer (some ⟨L.b, 0, none⟩), .agg #[.int .i64 (j.kind : Int), .string j.key, .slice A n c]] w fun e w' => e = .returned (.int .i64 (nextJ s : Int)) ∧ ∃ L', RsSt U w' L' cf (gives s j) ∧ RGrew w L L' ∧ Kp L.all w w' := by
  have hlt := hC.lt
  obtain ⟨κ, VS, VW, VL, VA, VD, h⟩ := hC
  obtain ⟨past, vs, h1, h2, h3, h4⟩ := h.jq
  obtain ⟨AL, cL, rfl, _⟩ := own_rd h2
  obtain ⟨t, ht⟩ : ∃ t, s.ended + s.jobs.length = t := ⟨_, rfl⟩
  rw [nextJ, ht] at hj
  have hb5 : w.cell? ⟨L.b, 5, none⟩ = some (.slice AL t cL) := by have := blk_cell h.hd 5 rfl; rw [ht] at this; exact this
  have HN := As.mk hn
  have HRD := As.mk hr
  have HNIL := As.mk hnil
  have HC5 := As.mk hb5
  have HT := As.mk ht
  have HTL := As.mk h2
  have HALL := As.mk (show RsP U w L cf s κ VS VW (.slice AL (s.ended + s.jobs.length) cL) VA VD ∧ past.length = s.ended ∧ RjOk (L.all ++ U) w (past ++ s.jobs) vs ∧ (Value.slice AL (s.ended + s.jobs.length) cL).ownBlock = L.gL ∧ (∀ x ∈ L.all ++ U, x < w.heap.size) from ⟨h, h1, h3, h4, hlt⟩)
  have HON := As.mk (show Tryz.prog.underlying 24 = _ from Tryz.underlying24)
  rw [nextJ, ht]
  clear hlt h h1 h2 h3 h4 hn hr hnil ht hb5
  go_enter Tryz.func95, Tryz.ntmps95
  have HKX : As (∀ v2 w2, w2.ownsRow 0 5 1 v2 (0 + n) ([] ++ iv .u8 j.text) → Kp (Value.slice (some ⟨w.heap.size + 1, 0, none⟩) 0 0).ownBlock.toList ((w.alloc (.cells #[.int .i64 (j.kind : Int), .string j.key, .slice A n c] 168)).alloc (.cells #[] 5)) w2 → At (w.heap.size + 2) (Value.slice (some ⟨w.heap.size + 1, 0, none⟩) 0 0).ownBlock v2.ownBlock →
      ∃ A2 c2, v2 = .slice A2 n c2 ∧ w2.cell? ⟨w.heap.size, 2, none⟩ = some (.slice A n c) ∧ w2.frozen? ⟨w.heap.size, 2, none⟩ = false ∧ As (∃ w3, w2.setCell ⟨w.heap.size, 2, none⟩ (.slice A2 n c2) = w3 ∧ Kp [] w w3 ∧ BSl (L.all ++ U) w3 (.slice A2 n c2) j.text ∧ w3.heap[w.heap.size]? = some (.cells #[.int .i64 (j.kind : Int), .string j.key, .slice A2 n c2] 168 (0, 0)))) := ⟨by
    intro v2 w2 o2 k2 a2
    have o2' : w2.ownsRow 0 5 1 v2 n (iv .u8 j.text) := by simpa using o2
    obtain ⟨A2, c2, rfl, _⟩ := own_rd o2'
    have hq := heap_alloc_new w (.cells #[.int .i64 (j.kind : Int), .string j.key, .slice A n c] 168)
    have hq2 := k2.blk (blk_alloc hq (.cells #[] 5)) (by simp [Value.ownBlock])
    have kk : Kp [] w w2 := (((Kp.refl [] w).alloc _).alloc _).trans k2 (by intro x hx; simp [Value.ownBlock] at hx; right; omega)
    refine ⟨A2, c2, rfl, blk_cell hq2 2 rfl, blk_free hq2 2, ⟨_, rfl, kk.setCell (.inr (Nat.le_refl _)) _, ?_, heap_setCell_same w2 w.heap.size 2 _ _ _ hq2⟩⟩
    have hg : ∀ g, (Value.slice A2 n c2).ownBlock = some g → w.heap.size + 1 ≤ g := a2.ge (by omega) (by simp [Value.ownBlock])
    have hown : Own 5 .u8 w2 (w.heap.size + 1) (.slice A2 n c2) j.text := ⟨by rw [HN.out]; exact o2', hg⟩
    refine (BSl.own hown (S := w.heap.size :: (L.all ++ U)) (fun x hx => ?_)).kp ((Kp.refl [w.heap.size] w2).setCell (.inl (by simp)) _) (fun x hx => .inl (by simp at hx; simp [hx])) (fun x hx => .inl (List.mem_cons_of_mem _ hx))
    rcases List.mem_cons.1 hx with e | e
    · exact .inl (by omega)
    · exact .inl (by have := HALL.out.2.2.2.2 x e; omega)⟩
  go_wp2_with (at_builtin; refine clone.app8 rfl (.tmp 5) (.tmp 7) rfl (.slice (some ⟨w.heap.size + 1, 0, none⟩) 0 0) 0 [] rfl (by have h := own_new (w.alloc (.cells #[.int .i64 (j.kind : Int), .string j.key, .slice A n c] 168)) [] 5 (by simp); rw [World.size_alloc] at h; exact h) A n c (iv .u8 j.text) rfl (by rw [iv_len, HN.out]) ((((Kp.refl [] w).alloc _).alloc _).rd_new HRD.out (by simp)) HNIL.out (iv_one _ _) (by omega) ?_; intro v2 w2 o2 k2 a2; obtain ⟨A2, c2, rfl, d2, f2, HW⟩ := HKX.out v2 w2 o2 k2 (by simpa using a2); clear o2 k2 a2)
  go_upto_region 2 with fail
  obtain ⟨w3, hw3, HW⟩ := HW.out
  rw [hw3]
  have HW := As.mk HW
  have HC3 := As.mk (HW.out.1.cell HC5.out (by simp))
  have l3 := World.block_lt_of_cell? w3 _ HC3.out
  have n3 : ¬ L.b = w3.heap.size := Nat.ne_of_lt l3
  have c3 := HC3.out
  have q0 := blk_cell HW.out.2.2 0 rfl
  have q1 := blk_cell HW.out.2.2 1 rfl
  have q2 := blk_cell HW.out.2.2 2 rfl
  have lq := World.block_lt_of_cell? w3 _ q0
  have nq : ¬ w.heap.size = w3.heap.size := Nat.ne_of_lt lq
  have HFIN : As (∀ q v7 w7, w7.ownsRow 0 168 3 v7 (t + 1) (vs ++ [.int .i64 (j.kind : Int), .string j.key, .slice A2 n c2]) → Kp (Value.slice AL t cL).ownBlock.toList ((w3.drewN q).alloc (.cells #[.int .i64 (j.kind : Int), .string j.key, .slice A2 n c2] 168)) w7 → At (w3.heap.size + 1) (Value.slice AL t cL).ownBlock v7.ownBlock →
      w7.cell? ⟨L.b, 5, none⟩ = some (.slice AL t cL) ∧ w7.frozen? ⟨L.b, 5, none⟩ = false ∧ As (∃ L', RsSt U (w7.setCell ⟨L.b, 5, none⟩ v7) L' cf (gives s j) ∧ RGrew w L L' ∧ Kp L.all w (w7.setCell ⟨L.b, 5, none⟩ v7))) := ⟨by
    intro q v7 w7 o7 k7 a7
    obtain ⟨h, h1, h3, h4, hlt⟩ := HALL.out
    have ht := HT.out
    subst ht
    have kq : Kp [] w3 (w3.drewN q) := (Kp.refl [] w3).drewN q
    obtain ⟨y0, y1, κ2, y2⟩ := RsP.more h j h1 h3 (HW.out.1.trans kq (by simp)) (HW.out.2.1.kp kq (by simp) (fun x hx => .inl hx)) h4 o7 k7 (by simpa using a7)
    refine ⟨y0, y1, ⟨_, ⟨_, _, _, _, _, _, y2⟩, ⟨rfl, fun x hx => ?_⟩, ?_⟩⟩
    · rcases RLay.mem.1 hx with e | e | e | e | e
      · exact .inl (RLay.mem.2 (.inl e))
      · exact .inl (RLay.mem.2 (.inr (.inl e)))
      · have e : v7.ownBlock = some x := e
        rcases a7 with e2 | ⟨y, e2, hy⟩
        · rw [e2] at e
          exact .inl (RLay.mem.2 (.inr (.inr (.inl (by rw [← h4]; exact e)))))
        · rw [e2] at e
          cases e
          have := HW.out.1.size
          exact .inr (by omega)
      · exact .inl (RLay.mem.2 (.inr (.inr (.inr (.inl e)))))
      · exact .inl (RLay.mem.2 (.inr (.inr (.inr (.inr e)))))
    · have k1 : Kp L.all w w7 := ((HW.out.1.mono (by simp)).trans (((Kp.refl L.all w3).drewN q).alloc _) (fun x hx => .inl hx)).trans k7 (fun x hx => .inl (RLay.mem.2 (.inr (.inr (.inl (by rw [← h4]; simpa using hx))))))
      exact k1.trans ((Kp.refl [L.b] w7).setCell (.inl (by simp)) _) (fun x hx => .inl (RLay.mem.2 (.inl (by simpa using hx))))⟩
  have HOW : As (∀ q, ((w3.drewN q).alloc (.cells #[.int .i64 (j.kind : Int), .string j.key, .slice A2 n c2] 168)).ownsRow 0 168 3 (.slice AL t cL) t vs) := ⟨fun q => by
    have ht := HT.out
    subst ht
    exact (((HW.out.1.drewN q)).alloc _).own HTL.out (by simp)⟩
  clear hw3 HW HC3 HKX
  go_region_law (refine step_app rfl (.tmp 14) (.tmp 16) 133 rfl 168 (.agg #[.int .i64 0, .string ByteArray.empty, .slice none 0 0]) 3 48 Tryz.underlying133 info_rjob rfl (by decide) (.slice AL t cL) t vs rfl (HOW.out _) (some ⟨w3.heap.size, 0, none⟩) 1 1 [.int .i64 (j.kind : Int), .string j.key, .slice A2 n c2] rfl rfl (rd_new _ [.int .i64 (j.kind : Int), .string j.key, .slice A2 n c2] 168) (by simp) (by simp [Value.oneCell']) (by omega) (by omega) ?_; intro v7 w7 o7 k7 a7; obtain ⟨A7, c7, rfl, _⟩ := own_rd o7; obtain ⟨y0, y1, HZ⟩ := HFIN.out _ _ w7 o7 k7 (by simpa using a7); clear o7 k7 a7)
  all_goals
    have i9 : IntKind.i64.wrap (((t + 1 : Nat) : Int) - 1) = (t : Int) := by rw [IntKind.wrap_i64]; omega
    have i8 : IntKind.i64.wrap ((t : Int) + 1 - 1) = (t : Int) := by rw [IntKind.wrap_i64]; omega
    go_wp2_with fail
    go_ret
    exact ⟨by first | rfl | (congr 2; omega), HZ.out⟩
end Go.Proofs.YtdiljpdohmeceaaGreat.co.cr

/- haystackref24: Put, Delete, Get, Find. -/
namespace Go.Proofs.YtdiljpdohmeceaaGreat.co.cr
open Go.RowKit H O opk frame wir

set_option maxHeartbeats 4000000 in
set_option maxRecDepth 100000 in
theorem get_any (U : List Nat) (w : World) (L : RLay) (cf : Cfg) (s : Cs) (key : ByteArray) (hC : RsSt U w L cf s) (hj : nextJ s ≤ 900000) :
    Calls Tryz.prog 63 #[.pointer (some ⟨L.b, 0, none⟩), .string key] w (if 1 ≤ key.size ∧ key.size ≤ 64 then RNewJ U L cf (nextJ s) 0 (gives s (jGet key)) w else RNewJ U L cf 0 1 s w) := by
  by_cases h : 1 ≤ key.size ∧ key.size ≤ 64
  · rw [if_pos h]
    have HG := As.mk (add_any U w L cf s (jGet key) none 0 0 hC hj rfl (fun j v h => by simp [iv, jGet] at h) (fun _ => rfl) (by omega))
    have HK : As (Calls Tryz.prog 79 #[.string key] w fun e w' => e = .returned (.bool true) ∧ w' = w) := ⟨by have := key_any key w; rw [decide_eq_true h] at this; exact this⟩
    clear hC hj h
    go_enter Tryz.func63, Tryz.ntmps63
    go_wp2_with (first
      | (go_at_call 79; refine HK.out.mono ?_; rintro e w2 ⟨rfl, rfl⟩; clear HK)
      | (go_at_call 95; refine HG.out.mono ?_; rintro e w3 ⟨rfl, HR⟩; have HR := As.mk HR))
    go_ret2
    exact ⟨rfl, HR.out⟩
  · rw [if_neg h]
    have HC := As.mk hC
    have HK : As (Calls Tryz.prog 79 #[.string key] w fun e w' => e = .returned (.bool false) ∧ w' = w) := ⟨by have := key_any key w; rw [decide_eq_false h] at this; exact this⟩
    clear hC hj h
    go_enter Tryz.func63, Tryz.ntmps63
    go_wp2_with (go_at_call 79; refine HK.out.mono ?_; rintro e w2 ⟨rfl, rfl⟩; clear HK)
    go_ret2
    exact RNewJ.no HC.out (Kp.refl _ _) 1
set_option maxHeartbeats 4000000 in
set_option maxRecDepth 100000 in
theorem delete_any (U : List Nat) (w : World) (L : RLay) (cf : Cfg) (s : Cs) (key : ByteArray) (hC : RsSt U w L cf s) (hj : nextJ s ≤ 900000) :
    Calls Tryz.prog 61 #[.pointer (some ⟨L.b, 0, none⟩), .string key] w (if 1 ≤ key.size ∧ key.size ≤ 64 then RNewJ U L cf (nextJ s) 0 (gives s (jDel key)) w else RNewJ U L cf 0 1 s w) := by
  by_cases h : 1 ≤ key.size ∧ key.size ≤ 64
  · rw [if_pos h]
    have HG := As.mk (add_any U w L cf s (jDel key) none 0 0 hC hj rfl (fun j v h => by simp [iv, jDel] at h) (fun _ => rfl) (by omega))
    have HK : As (Calls Tryz.prog 79 #[.string key] w fun e w' => e = .returned (.bool true) ∧ w' = w) := ⟨by have := key_any key w; rw [decide_eq_true h] at this; exact this⟩
    clear hC hj h
    go_enter Tryz.func61, Tryz.ntmps61
    go_wp2_with (first
      | (go_at_call 79; refine HK.out.mono ?_; rintro e w2 ⟨rfl, rfl⟩; clear HK)
      | (go_at_call 95; refine HG.out.mono ?_; rintro e w3 ⟨rfl, HR⟩; have HR := As.mk HR))
    go_ret2
    exact ⟨rfl, HR.out⟩
  · rw [if_neg h]
    have HC := As.mk hC
    have HK : As (Calls Tryz.prog 79 #[.string key] w fun e w' => e = .returned (.bool false) ∧ w' = w) := ⟨by have := key_any key w; rw [decide_eq_false h] at this; exact this⟩
    clear hC hj h
    go_enter Tryz.func61, Tryz.ntmps61
    go_wp2_with (go_at_call 79; refine HK.out.mono ?_; rintro e w2 ⟨rfl, rfl⟩; clear HK)
    go_ret2
    exact RNewJ.no HC.out (Kp.refl _ _) 1
set_option maxHeartbeats 4000000 in
set_option maxRecDepth 100000 in
theorem put_any (U : List Nat) (w : World) (L : RLay) (cf : Cfg) (s : Cs) (key : ByteArray) (A : Option Addr) (n c : Nat) (xs : List Int) (hC : RsSt U w L cf s) (hj : nextJ s ≤ 900000) (hn : xs.length = n) (hr : Rd w A (iv .u8 xs)) (hnil : A = none → c = 0) (h9 : n ≤ 1000000) :
    Calls Tryz.prog 59 #[.pointer (some ⟨L.b, 0, none⟩), .string key, .slice A n c] w (RNewJ U L cf (putR s key xs).1 (putR s key xs).2.1 (putR s key xs).2.2 w) := by
  have HC := As.mk hC
  by_cases h : 1 ≤ key.size ∧ key.size ≤ 64
  · have HK : As (Calls Tryz.prog 79 #[.string key] w fun e w' => e = .returned (.bool true) ∧ w' = w) := ⟨by have := key_any key w; rw [decide_eq_true h] at this; exact this⟩
    by_cases h2 : n ≤ 4096
    · have e : putR s key xs = ((nextJ s : Int), 0, gives s (jPut key xs)) := by rw [putR, if_pos h, if_pos (by omega)]
      rw [e]
      have i1 : ¬ (4096 : Int) < (n : Int) := by omega
      have HG := As.mk (add_any U w L cf s (jPut key xs) A n c hC hj hn hr hnil h9)
      clear hC hj hn hr hnil h9 h e
      go_enter Tryz.func59, Tryz.ntmps59
      go_wp2_with (first
        | (go_at_call 79; refine HK.out.mono ?_; rintro e w2 ⟨rfl, rfl⟩; clear HK)
        | (go_at_call 95; refine HG.out.mono ?_; rintro e w3 ⟨rfl, HR⟩; have HR := As.mk HR))
      go_ret2
      exact ⟨rfl, HR.out⟩
    · have e : putR s key xs = (0, 5, s) := by rw [putR, if_pos h, if_neg (by omega)]
      rw [e]
      have i1 : (4096 : Int) < (n : Int) := by omega
      clear hC hj hn hr hnil h9 h e
      go_enter Tryz.func59, Tryz.ntmps59
      go_wp2_with (go_at_call 79; refine HK.out.mono ?_; rintro e w2 ⟨rfl, rfl⟩; clear HK)
      go_ret2
      exact RNewJ.no HC.out (Kp.refl _ _) 5
  · have HK : As (Calls Tryz.prog 79 #[.string key] w fun e w' => e = .returned (.bool false) ∧ w' = w) := ⟨by have := key_any key w; rw [decide_eq_false h] at this; exact this⟩
    have e : putR s key xs = (0, 1, s) := by rw [putR, if_neg h]
    rw [e]
    clear hC hj hn hr hnil h9 h e
    go_enter Tryz.func59, Tryz.ntmps59
    go_wp2_with (go_at_call 79; refine HK.out.mono ?_; rintro e w2 ⟨rfl, rfl⟩; clear HK)
    go_ret2
    exact RNewJ.no HC.out (Kp.refl _ _) 1
set_option maxHeartbeats 4000000 in
set_option maxRecDepth 100000 in
theorem find_any (U : List Nat) (w : World) (L : RLay) (cf : Cfg) (s : Cs) (A : Option Addr) (n c : Nat) (xs : List Int) (hC : RsSt U w L cf s) (hj : nextJ s ≤ 900000) (hn : xs.length = n) (hr : Rd w A (iv .u8 xs)) (hnil : A = none → c = 0) (h9 : n ≤ 1000000) :
    Calls Tryz.prog 64 #[.pointer (some ⟨L.b, 0, none⟩), .slice A n c] w (if 1 ≤ n ∧ n ≤ 64 then RNewJ U L cf (nextJ s) 0 (gives s (jFind xs)) w else RNewJ U L cf 0 10 s w) := by
  have HC := As.mk hC
  by_cases h1 : 1 ≤ n
  · have i1 : ¬ (n : Int) < 1 := by omega
    by_cases h2 : n ≤ 64
    · rw [if_pos ⟨h1, h2⟩]
      have i2 : ¬ (64 : Int) < (n : Int) := by omega
      have HG := As.mk (add_any U w L cf s (jFind xs) A n c hC hj hn hr hnil h9)
      clear hC hj hn hr hnil h9
      go_enter Tryz.func64, Tryz.ntmps64
      go_wp2_with (go_at_call 95; refine HG.out.mono ?_; rintro e w3 ⟨rfl, HR⟩; have HR := As.mk HR)
      go_ret2
      exact ⟨rfl, HR.out⟩
    · rw [if_neg (by omega)]
      have i2 : (64 : Int) < (n : Int) := by omega
      clear hC hj hn hr hnil h9
      go_enter Tryz.func64, Tryz.ntmps64
      go_wp2_with fail
      go_ret2
      exact RNewJ.no HC.out (Kp.refl _ _) 10
  · rw [if_neg (by omega)]
    have i1 : (n : Int) < 1 := by omega
    clear hC hj hn hr hnil h9
    go_enter Tryz.func64, Tryz.ntmps64
    go_wp2_with fail
    go_ret2
    exact RNewJ.no HC.out (Kp.refl _ _) 10
end Go.Proofs.YtdiljpdohmeceaaGreat.co.cr
