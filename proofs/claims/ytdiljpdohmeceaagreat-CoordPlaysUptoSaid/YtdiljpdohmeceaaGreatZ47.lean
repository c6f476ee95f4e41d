/- Words and walks that this claim rests on: proved lemmas alone. -/
import Derived.Test.YtdiljpdohmeceaaGreatZ13
set_option maxHeartbeats 16000000
set_option maxRecDepth 100000
namespace Go.Proofs.YtdiljpdohmeceaaGreat.co.cr
open Go.RowKit H O opk frame wir
def RDoneI(U:List Nat)(L:RLay)(cf:Cfg)(s:Cs)(w:World)(e:Ending)(w':World):Prop:=
 ∃v L',e= .returned v/\RsSt U w' L' cf {s with done:=[]}/\RGrew w L L'/\RDone (L'.all++U) w' v v.ownBlock s.done/\(∀g,v.ownBlock=some g->g∉L'.all++U)/\Kp L.all w w'
theorem done_any(U:List Nat)(w:World)(L:RLay)(cf:Cfg)(s:Cs)(hC:RsSt U w L cf s):Calls Tryz.prog 22 #[.pointer (some ⟨L.b,0,none⟩)] w (RDoneI U L cf s w):=by
 obtain⟨κ,VS,VW,VL,VA,VD,h⟩:=hC
 have b9:w.cell? ⟨L.b,9,none⟩=some VD:=bkc h.hd 9 rfl
 have f9:=blk_free h.hd 9
 have H:=As.mk h
 obtain⟨vs,ho,hg,hr⟩:=h.dn
 obtain⟨A,c,rfl,_⟩:=own_rd ho
 clear h ho hg hr
 go_enter Tryz.func22,Tryz.ntmps22
 go_wp2
 go_ret
 have h:=H.out
 obtain⟨vs,ho,hg,hr⟩:=id h.dn
 have k:Kp [L.b] w (w.setCell ⟨L.b,9,none⟩ (.slice none 0 0)):=(Kp.refl _ w).setCell (.inl (by simp)) _
 have u:RUpd L {L with gd:=none} w (w.setCell ⟨L.b,9,none⟩ (.slice none 0 0)):=
  ⟨rfl,rfl,fun x e=> .inl e,fun x e=> .inl e,fun x e=>(by cases e),fun x hx=>⟨fun e=>(by have:=h.sep.gL x e;omega),fun e=>(by have:=h.sep.ga x e;omega)⟩⟩
 have hbm:L.b∈L.all:=RLay.mem.2 (.inl rfl)
 have hV:∀x∈[L.b],x∈L.all++U\/w.heap.size<=x:=fun x hx=>by
  simp only[List.mem_singleton] at hx
  subst hx
  exact .inl (List.mem_append.2 (.inl hbm))
 have ne:∀x c,κ x=c->c≠1->x∉[L.b]:=fun x c hx hc hm=>by
  simp only[List.mem_singleton] at hm
  subst hm
  have:=h.sep.b
  omega
 refine⟨_,{L with gd:=none},rfl,h.upd (s2:={s with done:=[]}) k hV (ne _ 2 h.sep.gw.1 (by decide)) u (heap_setCell_same w L.b 9 _ _ (.slice none 0 0) h.hd) rfl (h.jq0 k hV u (fun x e=>ne _ _ (h.sep.gL x e).1 (by decide)) rfl) (h.aq0 k hV u (fun x e=>ne _ _ (h.sep.ga x e).1 (by decide)) rfl) ⟨[],World.ownsRow_nil _ 0 _ 6,rfl,rfl⟩,u.grew,
  ⟨vs,k.own ho (fun x e=>ne _ _ (h.sep.gd x (by rw[<-hg];exact e)).1 (by decide)),rfl,hr.kp k hV (u.sub (U:=U))⟩,fun g e hm=> ?_,k.mono (fun x hx=> .inl (by simp at hx;subst hx;exact hbm))⟩
 have hd:=h.sep.gd g (by rw[<-hg];exact e)
 rcases List.mem_append.1 hm with e|e
 ·rcases RLay.mem.1 e with e|e|e|e|e
  ·have:=h.sep.b;rw[show g=L.b from e] at hd;omega
  ·have:=h.sep.gw;rw[show g=L.gw from e] at hd;omega
  ·have:=h.sep.gL g e;omega
  ·have:=h.sep.ga g e;omega
  ·cases e
 ·have:=h.sep.U g e;omega
end Go.Proofs.YtdiljpdohmeceaaGreat.co.cr
