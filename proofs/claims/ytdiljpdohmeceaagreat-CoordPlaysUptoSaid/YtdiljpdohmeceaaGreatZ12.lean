/- Words and walks that this claim rests on: proved lemmas alone. -/
import Derived.Test.YtdiljpdohmeceaaGreatZ11
import Derived.Test.YtdiljpdohmeceaaGreatRows
import Derived.Deep.Fields
import Derived.Deep.Slices
import Derived.Deep.Upon
set_option maxHeartbeats 16000000
set_option maxRecDepth 100000
namespace Go.Proofs.YtdiljpdohmeceaaGreat.co.cr
open Go.RowKit H O opk frame wir
theorem info_rjob:(Tryz.prog.info? 168).map (fun i=>(i.zero,i.size,i.bytes))=some (some (.agg #[.int .i64 0,.string ByteArray.empty,.slice none 0 0]),3,48):=by kernel_rfl
theorem RsP.more{U:List Nat}{w w3 w7:World}{L:RLay}{cf:Cfg}{s:Cs}{κ:Nat->Nat}{VS VW VL VA VD v7 tv:Value}{vs:List Value}{obj:Obj}{pj:List Job}(h:RsP U w L cf s κ VS VW VL VA VD)(j:Job)(hpj:pj.length=s.ended)
 (hj:RjOk (L.all++U) w (pj++s.jobs) vs) (k3:Kp [] w w3) (hB:BSl (L.all++U) w3 tv j.text) (hgl:VL.ownBlock=L.gL)
 (o7:w7.ownsRow 0 168 3 v7 (s.ended+s.jobs.length+1) (vs++[.int .i64 (j.kind:Int),.string j.key,tv])) (k7:Kp VL.ownBlock.toList (w3.alloc obj) w7) (a7:At (w3.heap.size+1) VL.ownBlock v7.ownBlock):
 w7.cell? ⟨L.b,5,none⟩=some VL/\w7.frozen? ⟨L.b,5,none⟩=false/\∃κ2,RsP U (w7.setCell ⟨L.b,5,none⟩ v7) {L with gL:=v7.ownBlock} cf (gives s j) κ2 VS VW v7 VA VD:=by
 have hsep:=h.sep
 have hs3:=k3.size
 have hbl:=lt_of_block h.hd
 have hvl:∀g,VL.ownBlock=some g->κ g=3/\g<w.heap.size:=fun g e=>hsep.gL g (by rw[<-hgl];exact e)
 have nb:L.b∉VL.ownBlock.toList:=fun e=>by
  have e:VL.ownBlock=some L.b:=by simpa using e
  have:=hvl _ e
  have:=hsep.b
  omega
 have kA:Kp VL.ownBlock.toList w3 w7:=((Kp.refl VL.ownBlock.toList w3).alloc _).trans k7 (fun x hx=> .inl hx)
 have hb7:=kA.blk (k3.blk h.hd (by simp)) nb
 have kS:Kp [L.b] w7 (w7.setCell ⟨L.b,5,none⟩ v7):=(Kp.refl _ w7).setCell (.inl (by simp)) _
 have kB:Kp (L.b::VL.ownBlock.toList) w3 (w7.setCell ⟨L.b,5,none⟩ v7):=(kA.mono (fun x hx=> .inl (List.mem_cons_of_mem _ hx))).trans kS (fun x hx=> .inl (by simp at hx;simp[hx]))
 have kT:Kp (L.b::VL.ownBlock.toList) w (w7.setCell ⟨L.b,5,none⟩ v7):=(k3.mono (fun x hx=>by simp at hx)).trans kB (fun x hx=> .inl hx)
 have ne:∀x c,κ x=c->c≠1->c≠3->x∉L.b::VL.ownBlock.toList:=fun x c hx h1 h3 hm=>by
  rcases List.mem_cons.1 hm with e|e
  ·subst e;have:=hsep.b;omega
  ·have:=hvl x (by simpa using e);omega
 have hv7:∀g,v7.ownBlock=some g->(VL.ownBlock=some g)\/w3.heap.size<g:=fun g e=>by
  rcases a7 with e2|⟨y,e2,hy⟩
  ·rw[e2] at e;exact .inl e
  ·rw[e2] at e
   cases e
   exact .inr (by omega)
 have hVm:∀x∈L.b::VL.ownBlock.toList,x∈L.all++U:=fun x hx=>by
  rcases List.mem_cons.1 hx with e|e
  ·exact List.mem_append.2 (.inl (RLay.mem.2 (.inl e)))
  ·exact List.mem_append.2 (.inl (RLay.mem.2 (.inr (.inr (.inl (by rw[<-hgl];simpa using e))))))
 have hS0:∀x∈({L with gL:=v7.ownBlock}:RLay).all++U,x∈L.all++U\/w3.heap.size<x:=fun x hx=>by
  rcases List.mem_append.1 hx with e|e
  ·rcases RLay.mem.1 e with e|e|e|e|e
   ·exact .inl (List.mem_append.2 (.inl (RLay.mem.2 (.inl e))))
   ·exact .inl (List.mem_append.2 (.inl (RLay.mem.2 (.inr (.inl e)))))
   ·rcases hv7 x e with e|e
    ·exact .inl (List.mem_append.2 (.inl (RLay.mem.2 (.inr (.inr (.inl (by rw[<-hgl];exact e)))))))
    ·exact .inr e
   ·exact .inl (List.mem_append.2 (.inl (RLay.mem.2 (.inr (.inr (.inr (.inl e)))))))
   ·exact .inl (List.mem_append.2 (.inl (RLay.mem.2 (.inr (.inr (.inr (.inr e)))))))
  ·exact .inl (List.mem_append.2 (.inr e))
 have hS':∀x∈({L with gL:=v7.ownBlock}:RLay).all++U,x∈L.all++U\/w.heap.size<=x:=fun x hx=>(hS0 x hx).imp id (fun e=>by omega)
 have hV':∀x∈L.b::VL.ownBlock.toList,x∈L.all++U\/w.heap.size<=x:=fun x hx=> .inl (hVm x hx)
 have h7:w3.heap.size+1<=w7.heap.size:=by have:=k7.size;simpa using this
 have lo:∀x c,κ x=c/\x<w.heap.size->(if x<w.heap.size then κ x else if v7.ownBlock=some x then 3 else 0)=c/\x<(w7.setCell ⟨L.b,5,none⟩ v7).heap.size:=fun x c hx=>by
  rw[if_pos hx.2]
  exact⟨hx.1,by simp;omega⟩
 refine⟨bkc hb7 5 rfl,blk_free hb7 5,fun x=>if x<w.heap.size then κ x else if v7.ownBlock=some x then 3 else 0,
  ⟨lo _ _ hsep.b,lo _ _ hsep.gw,fun x e=> ?_,fun x e=>lo _ _ (hsep.ga x e),fun x e=>lo _ _ (hsep.gd x e),fun x e=>lo _ _ (hsep.U x e)⟩,
  heap_setCell_same w7 L.b 5 _ _ v7 hb7,h.sh.kp kT hV' hS',⟨kT.own h.wh.1 (fun x e=>by rw[h.wh.2] at e;cases e;exact ne _ 2 hsep.gw.1 (by decide) (by decide)),h.wh.2⟩,⟨pj,vs++[.int .i64 (j.kind:Int),.string j.key,tv],hpj, ?_, ?_,rfl⟩, ?_,
  h.dn.kp kT (fun x e=>ne _ _ (hsep.gd x e).1 (by decide) (by decide)) hV' hS'⟩
 ·have e:v7.ownBlock=some x:=e
  have hx:x<w7.heap.size:=own_lt o7 x e
  rcases hv7 x e with e2|e2
  ·exact lo _ _ (hvl x e2)
  ·show(if x<w.heap.size then κ x else if v7.ownBlock=some x then 3 else 0)=3/\x<(w7.setCell ⟨L.b,5,none⟩ v7).heap.size
   rw[if_neg (by omega),if_pos e]
   exact⟨rfl,by simp;exact hx⟩
 ·have e:(gives s j).ended+(gives s j).jobs.length=s.ended+s.jobs.length+1:=by simp[gives];omega
  rw[e]
  refine kS.own o7 (fun x e hm=> ?_)
  simp at hm
  subst hm
  rcases hv7 _ e with e2|e2
  ·exact nb (by simpa using e2)
  ·omega
 ·show RjOk _ _ (pj++(s.jobs++[j])) _
  rw[<-List.append_assoc]
  exact RjOk.snoc (hB.kp kB (fun x hx=> .inl (hVm x hx)) (fun x hx=>(hS0 x hx).imp id (fun e=>by omega))) (hj.kp kT hV' hS')
 ·obtain⟨us,a1,a2,a3⟩:=h.aq
  exact⟨us,kT.own a1 (fun x e=>ne _ _ (hsep.ga x (by rw[<-a3];exact e)).1 (by decide) (by decide)),a2.kp kT hV' hS',a3⟩
def RNewJ(U:List Nat)(L:RLay)(cf:Cfg)(n e:Int)(s':Cs)(w:World)(x:Ending)(w':World):Prop:=
 x= .returned (.tuple #[.int .i64 n,.int .i64 e])/\∃L',RsSt U w' L' cf s'/\RGrew w L L'/\Kp L.all w w'
theorem RNewJ.no{U:List Nat}{L:RLay}{cf:Cfg}{s:Cs}{w w':World}(hC:RsSt U w L cf s)(k:Kp [] w w')(e:Int):RNewJ U L cf 0 e s w (.returned (.tuple #[.int .i64 0,.int .i64 e])) w':=
 ⟨rfl,L,hC.kp k (by simp) (fun _ h=> .inl h),RGrew.refl _ _,k.mono (by simp)⟩
theorem add_any(U:List Nat)(w:World)(L:RLay)(cf:Cfg)(s:Cs)(j:Job)(A:Option Addr)(n c:Nat)(hC:RsSt U w L cf s)(hj:nextJ s<=900000)(hn:j.text.length=n)(hr:Rd w A (iv .u8 j.text))(hnil:A=none->c=0)(h9:n<=1000000):
 Calls Tryz.prog 95 #[.pointer (some ⟨L.b,0,none⟩),.agg #[.int .i64 (j.kind:Int),.string j.key,.slice A n c]] w fun e w'=>e= .returned (.int .i64 (nextJ s:Int))/\∃L',RsSt U w' L' cf (gives s j)/\RGrew w L L'/\Kp L.all w w':=by
 have hlt:=hC.lt
 obtain⟨κ,VS,VW,VL,VA,VD,h⟩:=hC
 obtain⟨past,vs,h1,h2,h3,h4⟩:=h.jq
 obtain⟨AL,cL,rfl,_⟩:=own_rd h2
 obtain⟨t,ht⟩:∃t,s.ended+s.jobs.length=t:=⟨_,rfl⟩
 rw[nextJ,ht] at hj
 have hb5:w.cell? ⟨L.b,5,none⟩=some (.slice AL t cL):=by have:=bkc h.hd 5 rfl;rw[ht] at this;exact this
 have HN:=As.mk hn
 have HRD:=As.mk hr
 have HNIL:=As.mk hnil
 have HC5:=As.mk hb5
 have HT:=As.mk ht
 have HTL:=As.mk h2
 have HALL:=As.mk (show RsP U w L cf s κ VS VW (.slice AL (s.ended+s.jobs.length) cL) VA VD/\past.length=s.ended/\RjOk (L.all++U) w (past++s.jobs) vs/\(Value.slice AL (s.ended+s.jobs.length) cL).ownBlock=L.gL/\(∀x∈L.all++U,x<w.heap.size) from⟨h,h1,h3,h4,hlt⟩)
 have HON:=As.mk (show Tryz.prog.underlying 24=_ from Tryz.underlying24)
 rw[nextJ,ht]
 clear hlt h h1 h2 h3 h4 hn hr hnil ht hb5
 go_enter Tryz.func95,Tryz.ntmps95
 have HKX:As (∀v2 w2,w2.ownsRow 0 5 1 v2 (0+n) ([]++iv .u8 j.text)->Kp (Value.slice (some ⟨w.heap.size+1,0,none⟩) 0 0).ownBlock.toList ((w.alloc (.cells #[.int .i64 (j.kind:Int),.string j.key,.slice A n c] 168)).alloc (.cells #[] 5)) w2->At (w.heap.size+2) (Value.slice (some ⟨w.heap.size+1,0,none⟩) 0 0).ownBlock v2.ownBlock->
  ∃A2 c2,v2= .slice A2 n c2/\w2.cell? ⟨w.heap.size,2,none⟩=some (.slice A n c)/\w2.frozen? ⟨w.heap.size,2,none⟩=false/\As (∃w3,w2.setCell ⟨w.heap.size,2,none⟩ (.slice A2 n c2)=w3/\Kp [] w w3/\BSl (L.all++U) w3 (.slice A2 n c2) j.text/\w3.heap[w.heap.size]?=some (.cells #[.int .i64 (j.kind:Int),.string j.key,.slice A2 n c2] 168 (0,0)))):=⟨by
  intro v2 w2 o2 k2 a2
  have o2':w2.ownsRow 0 5 1 v2 n (iv .u8 j.text):=by simpa using o2
  obtain⟨A2,c2,rfl,_⟩:=own_rd o2'
  have hq:=heap_alloc_new w (.cells #[.int .i64 (j.kind:Int),.string j.key,.slice A n c] 168)
  have hq2:=k2.blk (blk_alloc hq (.cells #[] 5)) (by simp[Value.ownBlock])
  have kk:Kp [] w w2:=(((Kp.refl [] w).alloc _).alloc _).trans k2 (by intro x hx;simp[Value.ownBlock] at hx;right;omega)
  refine⟨A2,c2,rfl,bkc hq2 2 rfl,blk_free hq2 2,⟨_,rfl,kk.setCell (.inr (Nat.le_refl _)) _, ?_,heap_setCell_same w2 w.heap.size 2 _ _ _ hq2⟩⟩
  have hg:∀g,(Value.slice A2 n c2).ownBlock=some g->w.heap.size+1<=g:=a2.ge (by omega) (by simp[Value.ownBlock])
  have hown:Own 5 .u8 w2 (w.heap.size+1) (.slice A2 n c2) j.text:=⟨by rw[HN.out];exact o2',hg⟩
  refine(BSl.own hown (S:=w.heap.size::(L.all++U)) (fun x hx=> ?_)).kp ((Kp.refl [w.heap.size] w2).setCell (.inl (by simp)) _) (fun x hx=> .inl (by simp at hx;simp[hx])) (fun x hx=> .inl (List.mem_cons_of_mem _ hx))
  rcases List.mem_cons.1 hx with e|e
  ·exact .inl (by omega)
  ·exact .inl (by have:=HALL.out.2.2.2.2 x e;omega)⟩
 go_wp2_with (at_builtin;refine clone.app8 rfl (.tmp 5) (.tmp 7) rfl (.slice (some ⟨w.heap.size+1,0,none⟩) 0 0) 0 [] rfl (by have h:=own_new (w.alloc (.cells #[.int .i64 (j.kind:Int),.string j.key,.slice A n c] 168)) [] 5 (by simp);rw[World.size_alloc] at h;exact h) A n c (iv .u8 j.text) rfl (by rw[iv_len,HN.out]) ((((Kp.refl [] w).alloc _).alloc _).rd_new HRD.out (by simp)) HNIL.out (iv_one _ _) (by omega) ?_;intro v2 w2 o2 k2 a2;obtain⟨A2,c2,rfl,d2,f2,HW⟩:=HKX.out v2 w2 o2 k2 (by simpa using a2);clear o2 k2 a2)
 go_upto_region 2 with fail
 obtain⟨w3,hw3,HW⟩:=HW.out
 rw[hw3]
 have HW:=As.mk HW
 have HC3:=As.mk (HW.out.1.cell HC5.out (by simp))
 have l3:=World.block_lt_of_cell? w3 _ HC3.out
 have n3:¬L.b=w3.heap.size:=Nat.ne_of_lt l3
 have c3:=HC3.out
 have q0:=bkc HW.out.2.2 0 rfl
 have q1:=bkc HW.out.2.2 1 rfl
 have q2:=bkc HW.out.2.2 2 rfl
 have lq:=World.block_lt_of_cell? w3 _ q0
 have nq:¬w.heap.size=w3.heap.size:=Nat.ne_of_lt lq
 have HFIN:As (∀q v7 w7,w7.ownsRow 0 168 3 v7 (t+1) (vs++[.int .i64 (j.kind:Int),.string j.key,.slice A2 n c2])->Kp (Value.slice AL t cL).ownBlock.toList ((w3.drewN q).alloc (.cells #[.int .i64 (j.kind:Int),.string j.key,.slice A2 n c2] 168)) w7->At (w3.heap.size+1) (Value.slice AL t cL).ownBlock v7.ownBlock->
  w7.cell? ⟨L.b,5,none⟩=some (.slice AL t cL)/\w7.frozen? ⟨L.b,5,none⟩=false/\As (∃L',RsSt U (w7.setCell ⟨L.b,5,none⟩ v7) L' cf (gives s j)/\RGrew w L L'/\Kp L.all w (w7.setCell ⟨L.b,5,none⟩ v7))):=⟨by
  intro q v7 w7 o7 k7 a7
  obtain⟨h,h1,h3,h4,hlt⟩:=HALL.out
  have ht:=HT.out
  subst ht
  have kq:Kp [] w3 (w3.drewN q):=(Kp.refl [] w3).drewN q
  obtain⟨y0,y1,κ2,y2⟩:=RsP.more h j h1 h3 (HW.out.1.trans kq (by simp)) (HW.out.2.1.kp kq (by simp) (fun x hx=> .inl hx)) h4 o7 k7 (by simpa using a7)
  refine⟨y0,y1,⟨_,⟨_,_,_,_,_,_,y2⟩,⟨rfl,fun x hx=> ?_⟩, ?_⟩⟩
  ·rcases RLay.mem.1 hx with e|e|e|e|e
   ·exact .inl (RLay.mem.2 (.inl e))
   ·exact .inl (RLay.mem.2 (.inr (.inl e)))
   ·have e:v7.ownBlock=some x:=e
    rcases a7 with e2|⟨y,e2,hy⟩
    ·rw[e2] at e
     exact .inl (RLay.mem.2 (.inr (.inr (.inl (by rw[<-h4];exact e)))))
    ·rw[e2] at e
     cases e
     have:=HW.out.1.size
     exact .inr (by omega)
   ·exact .inl (RLay.mem.2 (.inr (.inr (.inr (.inl e)))))
   ·exact .inl (RLay.mem.2 (.inr (.inr (.inr (.inr e)))))
  ·have k1:Kp L.all w w7:=((HW.out.1.mono (by simp)).trans (((Kp.refl L.all w3).drewN q).alloc _) (fun x hx=> .inl hx)).trans k7 (fun x hx=> .inl (RLay.mem.2 (.inr (.inr (.inl (by rw[<-h4];simpa using hx))))))
   exact k1.trans ((Kp.refl [L.b] w7).setCell (.inl (by simp)) _) (fun x hx=> .inl (RLay.mem.2 (.inl (by simpa using hx))))⟩
 have HOW:As (∀q,((w3.drewN q).alloc (.cells #[.int .i64 (j.kind:Int),.string j.key,.slice A2 n c2] 168)).ownsRow 0 168 3 (.slice AL t cL) t vs):=⟨fun q=>by
  have ht:=HT.out
  subst ht
  exact(((HW.out.1.drewN q)).alloc _).own HTL.out (by simp)⟩
 clear hw3 HW HC3 HKX
 go_region_law (refine step_app rfl (.tmp 14) (.tmp 16) 133 rfl 168 (.agg #[.int .i64 0,.string ByteArray.empty,.slice none 0 0]) 3 48 Tryz.underlying133 info_rjob rfl (by decide) (.slice AL t cL) t vs rfl (HOW.out _) (some ⟨w3.heap.size,0,none⟩) 1 1 [.int .i64 (j.kind:Int),.string j.key,.slice A2 n c2] rfl rfl (rd_new _ [.int .i64 (j.kind:Int),.string j.key,.slice A2 n c2] 168) (by simp) (by simp[Value.oneCell']) (by omega) (by omega) ?_;intro v7 w7 o7 k7 a7;obtain⟨A7,c7,rfl,_⟩:=own_rd o7;obtain⟨y0,y1,HZ⟩:=HFIN.out _ _ w7 o7 k7 (by simpa using a7);clear o7 k7 a7)
 all_goals
  have i9:IntKind.i64.wrap (((t+1:Nat):Int)-1)=(t:Int):=by rw[IntKind.wrap_i64];omega
  have i8:IntKind.i64.wrap ((t:Int)+1-1)=(t:Int):=by rw[IntKind.wrap_i64];omega
  go_wp2_with fail
  go_ret
  exact⟨by first|rfl|(congr 2;omega),HZ.out⟩
theorem get_any(U:List Nat)(w:World)(L:RLay)(cf:Cfg)(s:Cs)(key:ByteArray)(hC:RsSt U w L cf s)(hj:nextJ s<=900000):
 Calls Tryz.prog 63 #[.pointer (some ⟨L.b,0,none⟩),.string key] w (if 1<=key.size/\key.size<=64 then RNewJ U L cf (nextJ s) 0 (gives s (jGet key)) w else RNewJ U L cf 0 1 s w):=by
 by_cases h:1<=key.size/\key.size<=64
 ·rw[if_pos h]
  have HG:=As.mk (add_any U w L cf s (jGet key) none 0 0 hC hj rfl (fun j v h=>by simp[iv,jGet] at h) (fun _=>rfl) (by omega))
  have HK:As (Calls Tryz.prog 79 #[.string key] w fun e w'=>e= .returned (.bool true)/\w'=w):=⟨by have:=key_any key w;rw[decide_eq_true h] at this;exact this⟩
  clear hC hj h
  go_enter Tryz.func63,Tryz.ntmps63
  go_wp2_with (first
   |(go_at_call 79;refine HK.out.mono ?_;rintro e w2 ⟨rfl,rfl⟩;clear HK)
   |(go_at_call 95;refine HG.out.mono ?_;rintro e w3 ⟨rfl,HR⟩;have HR:=As.mk HR))
  go_ret2
  exact⟨rfl,HR.out⟩
 ·rw[if_neg h]
  have HC:=As.mk hC
  have HK:As (Calls Tryz.prog 79 #[.string key] w fun e w'=>e= .returned (.bool false)/\w'=w):=⟨by have:=key_any key w;rw[decide_eq_false h] at this;exact this⟩
  clear hC hj h
  go_enter Tryz.func63,Tryz.ntmps63
  go_wp2_with (go_at_call 79;refine HK.out.mono ?_;rintro e w2 ⟨rfl,rfl⟩;clear HK)
  go_ret2
  exact RNewJ.no HC.out (Kp.refl _ _) 1
theorem delete_any(U:List Nat)(w:World)(L:RLay)(cf:Cfg)(s:Cs)(key:ByteArray)(hC:RsSt U w L cf s)(hj:nextJ s<=900000):
 Calls Tryz.prog 61 #[.pointer (some ⟨L.b,0,none⟩),.string key] w (if 1<=key.size/\key.size<=64 then RNewJ U L cf (nextJ s) 0 (gives s (jDel key)) w else RNewJ U L cf 0 1 s w):=by
 by_cases h:1<=key.size/\key.size<=64
 ·rw[if_pos h]
  have HG:=As.mk (add_any U w L cf s (jDel key) none 0 0 hC hj rfl (fun j v h=>by simp[iv,jDel] at h) (fun _=>rfl) (by omega))
  have HK:As (Calls Tryz.prog 79 #[.string key] w fun e w'=>e= .returned (.bool true)/\w'=w):=⟨by have:=key_any key w;rw[decide_eq_true h] at this;exact this⟩
  clear hC hj h
  go_enter Tryz.func61,Tryz.ntmps61
  go_wp2_with (first
   |(go_at_call 79;refine HK.out.mono ?_;rintro e w2 ⟨rfl,rfl⟩;clear HK)
   |(go_at_call 95;refine HG.out.mono ?_;rintro e w3 ⟨rfl,HR⟩;have HR:=As.mk HR))
  go_ret2
  exact⟨rfl,HR.out⟩
 ·rw[if_neg h]
  have HC:=As.mk hC
  have HK:As (Calls Tryz.prog 79 #[.string key] w fun e w'=>e= .returned (.bool false)/\w'=w):=⟨by have:=key_any key w;rw[decide_eq_false h] at this;exact this⟩
  clear hC hj h
  go_enter Tryz.func61,Tryz.ntmps61
  go_wp2_with (go_at_call 79;refine HK.out.mono ?_;rintro e w2 ⟨rfl,rfl⟩;clear HK)
  go_ret2
  exact RNewJ.no HC.out (Kp.refl _ _) 1
theorem put_any(U:List Nat)(w:World)(L:RLay)(cf:Cfg)(s:Cs)(key:ByteArray)(A:Option Addr)(n c:Nat)(xs:List Int)(hC:RsSt U w L cf s)(hj:nextJ s<=900000)(hn:xs.length=n)(hr:Rd w A (iv .u8 xs))(hnil:A=none->c=0)(h9:n<=1000000):
 Calls Tryz.prog 59 #[.pointer (some ⟨L.b,0,none⟩),.string key,.slice A n c] w (RNewJ U L cf (putR s key xs).1 (putR s key xs).2.1 (putR s key xs).2.2 w):=by
 have HC:=As.mk hC
 by_cases h:1<=key.size/\key.size<=64
 ·have HK:As (Calls Tryz.prog 79 #[.string key] w fun e w'=>e= .returned (.bool true)/\w'=w):=⟨by have:=key_any key w;rw[decide_eq_true h] at this;exact this⟩
  by_cases h2:n<=4096
  ·have e:putR s key xs=((nextJ s:Int),0,gives s (jPut key xs)):=by rw[putR,if_pos h,if_pos (by omega)]
   rw[e]
   have i1:¬(4096:Int)<(n:Int):=by omega
   have HG:=As.mk (add_any U w L cf s (jPut key xs) A n c hC hj hn hr hnil h9)
   clear hC hj hn hr hnil h9 h e
   go_enter Tryz.func59,Tryz.ntmps59
   go_wp2_with (first
    |(go_at_call 79;refine HK.out.mono ?_;rintro e w2 ⟨rfl,rfl⟩;clear HK)
    |(go_at_call 95;refine HG.out.mono ?_;rintro e w3 ⟨rfl,HR⟩;have HR:=As.mk HR))
   go_ret2
   exact⟨rfl,HR.out⟩
  ·have e:putR s key xs=(0,5,s):=by rw[putR,if_pos h,if_neg (by omega)]
   rw[e]
   have i1:(4096:Int)<(n:Int):=by omega
   clear hC hj hn hr hnil h9 h e
   go_enter Tryz.func59,Tryz.ntmps59
   go_wp2_with (go_at_call 79;refine HK.out.mono ?_;rintro e w2 ⟨rfl,rfl⟩;clear HK)
   go_ret2
   exact RNewJ.no HC.out (Kp.refl _ _) 5
 ·have HK:As (Calls Tryz.prog 79 #[.string key] w fun e w'=>e= .returned (.bool false)/\w'=w):=⟨by have:=key_any key w;rw[decide_eq_false h] at this;exact this⟩
  have e:putR s key xs=(0,1,s):=by rw[putR,if_neg h]
  rw[e]
  clear hC hj hn hr hnil h9 h e
  go_enter Tryz.func59,Tryz.ntmps59
  go_wp2_with (go_at_call 79;refine HK.out.mono ?_;rintro e w2 ⟨rfl,rfl⟩;clear HK)
  go_ret2
  exact RNewJ.no HC.out (Kp.refl _ _) 1
theorem find_any(U:List Nat)(w:World)(L:RLay)(cf:Cfg)(s:Cs)(A:Option Addr)(n c:Nat)(xs:List Int)(hC:RsSt U w L cf s)(hj:nextJ s<=900000)(hn:xs.length=n)(hr:Rd w A (iv .u8 xs))(hnil:A=none->c=0)(h9:n<=1000000):
 Calls Tryz.prog 64 #[.pointer (some ⟨L.b,0,none⟩),.slice A n c] w (if 1<=n/\n<=64 then RNewJ U L cf (nextJ s) 0 (gives s (jFind xs)) w else RNewJ U L cf 0 10 s w):=by
 have HC:=As.mk hC
 by_cases h1:1<=n
 ·have i1:¬(n:Int)<1:=by omega
  by_cases h2:n<=64
  ·rw[if_pos ⟨h1,h2⟩]
   have i2:¬(64:Int)<(n:Int):=by omega
   have HG:=As.mk (add_any U w L cf s (jFind xs) A n c hC hj hn hr hnil h9)
   clear hC hj hn hr hnil h9
   go_enter Tryz.func64,Tryz.ntmps64
   go_wp2_with (go_at_call 95;refine HG.out.mono ?_;rintro e w3 ⟨rfl,HR⟩;have HR:=As.mk HR)
   go_ret2
   exact⟨rfl,HR.out⟩
  ·rw[if_neg (by omega)]
   have i2:(64:Int)<(n:Int):=by omega
   clear hC hj hn hr hnil h9
   go_enter Tryz.func64,Tryz.ntmps64
   go_wp2_with fail
   go_ret2
   exact RNewJ.no HC.out (Kp.refl _ _) 10
 ·rw[if_neg (by omega)]
  have i1:(n:Int)<1:=by omega
  clear hC hj hn hr hnil h9
  go_enter Tryz.func64,Tryz.ntmps64
  go_wp2_with fail
  go_ret2
  exact RNewJ.no HC.out (Kp.refl _ _) 10
end Go.Proofs.YtdiljpdohmeceaaGreat.co.cr
namespace Go.Proofs.YtdiljpdohmeceaaGreat.co
open Go.RowKit H O opk frame wir
open cr (RLay RsSt RNewJ RGrew)
def lCfg(id pat tr:Nat):Cfg:=⟨id,pat,tr,[[0,1,2],[1,3]]⟩
theorem grp012:Grp [0,1,2]:=⟨by decide,fun i h=>by
 have:i=0\/i=1\/i=2:=by simp at h;omega
 rcases this with rfl|rfl|rfl
 ·exact⟨by simp,by omega⟩
 ·exact⟨by simp,fun _=>by simp⟩
 ·exact⟨by simp,fun _=>by simp⟩⟩
theorem grp13:Grp [1,3]:=⟨by decide,fun i h=>by
 have:i=0\/i=1:=by simp at h;omega
 rcases this with rfl|rfl
 ·exact⟨by simp,by omega⟩
 ·exact⟨by simp,fun _=>by simp⟩⟩
theorem lCfg_grp(id pat tr:Nat):∀x∈(lCfg id pat tr).shards,Grp x:=fun x hx=>by
 simp only[lCfg,List.mem_cons,List.not_mem_nil,or_false] at hx
 rcases hx with rfl|rfl
 ·exact grp012
 ·exact grp13
theorem lCfg_ok{id pat tr:Nat}(h1:7<=id/\id<=255)(h2:1<=pat/\pat<=1000)(h3:1<=tr/\tr<=1000):CfgOk (lCfg id pat tr):=⟨h1,h2,h3,by show 1<=2/\2<=8;omega,lCfg_grp id pat tr⟩
structure PairP(U:List Nat)(w:World)(P:Nat)(L:Lay)(M:RLay)(cf:Cfg)(s t:Cs)(WV:Value):Prop where
 hd:w.heap[P]?=some (.cells #[.pointer (some ⟨L.b,0,none⟩),.pointer (some ⟨M.b,0,none⟩),WV] 33 (0,0))
 c:CoSt (P::(M.all++U)) w L cf s
 x:RsSt (P::(L.all++U)) w M cf t
theorem CoSt.apart{U:List Nat}{w:World}{L:Lay}{cf:Cfg}{s:Cs}(h:CoSt U w L cf s):∀x∈U,x∉L.all:=by
 obtain⟨κ,VS,VW,VJ,VD,MV,AV,l,h⟩:=h
 intro x hx hm
 have:=(h.sep.U x hx).1
 have:=(h.sep.pos hm).1
 omega
theorem cr.RsSt.apart{U:List Nat}{w:World}{L:RLay}{cf:Cfg}{s:Cs}(h:RsSt U w L cf s):∀x∈U,x∉L.all:=by
 obtain⟨κ,VS,VW,VL,VA,VD,h⟩:=h
 intro x hx hm
 have:=(h.sep.U x hx).1
 have:=(h.sep.pos hm).1
 omega
theorem PairP.kp{U V:List Nat}{w w1:World}{P:Nat}{L:Lay}{M:RLay}{cf:Cfg}{s t:Cs}{WV:Value}(h:PairP U w P L M cf s t WV)(k:Kp V w w1)(hV:∀x∈V,x∈U\/w.heap.size<=x)(hP:P∉V):PairP U w1 P L M cf s t WV:=
 ⟨k.blk h.hd hP,h.c.kp k (fun x hx=>(hV x hx).imp (fun e=>by simp[e]) id) (fun x hx=> .inl hx),h.x.kp k (fun x hx=>(hV x hx).imp (fun e=>by simp[e]) id) (fun x hx=> .inl hx)⟩
theorem PairP.prog{U:List Nat}{w w1:World}{P:Nat}{L L1:Lay}{M:RLay}{cf:Cfg}{s t s1:Cs}{WV:Value}(h:PairP U w P L M cf s t WV)(hc:CoSt (P::(M.all++U)) w1 L1 cf s1)(g:Grew w L L1)(k:Kp L.all w w1):PairP U w1 P L1 M cf s1 t WV:=by
 refine⟨?_,hc,h.x.kp k (fun x hx=> .inl (by simp[hx])) (fun x hx=> ?_)⟩
 ·rw[g.1]
  exact k.blk h.hd (h.c.apart P (by simp))
 ·have hlt:=hc.lt
  simp only[List.mem_cons,List.mem_append] at hx⊢
  rcases hx with e|e|e
  ·exact .inl (.inl e)
  ·rcases g.2 x e with e2|e2
   ·exact .inl (.inr (.inl e2))
   ·exact .inr ⟨e2,hlt x (List.mem_append.2 (.inl e))⟩
  ·exact .inl (.inr (.inr e))
theorem PairP.docu{U:List Nat}{w w1:World}{P:Nat}{L:Lay}{M M1:RLay}{cf:Cfg}{s t t1:Cs}{WV:Value}(h:PairP U w P L M cf s t WV)(hc:RsSt (P::(L.all++U)) w1 M1 cf t1)(g:RGrew w M M1)(k:Kp M.all w w1):PairP U w1 P L M1 cf s t1 WV:=by
 refine⟨?_,h.c.kp k (fun x hx=> .inl (by simp[hx])) (fun x hx=> ?_),hc⟩
 ·rw[g.1]
  exact k.blk h.hd (cr.RsSt.apart h.x P (by simp))
 ·have hlt:=hc.lt
  simp only[List.mem_cons,List.mem_append] at hx⊢
  rcases hx with e|e|e
  ·exact .inl (.inl e)
  ·rcases g.2 x e with e2|e2
   ·exact .inl (.inr (.inl e2))
   ·exact .inr ⟨e2,hlt x (List.mem_append.2 (.inl e))⟩
  ·exact .inl (.inr (.inr e))
theorem start_good(id pat tr:Nat)(w:World)(h1:7<=id/\id<=255)(h2:1<=pat/\pat<=1000)(h3:1<=tr/\tr<=1000):
 Calls Tryz.prog 8 #[.int .i64 (id:Int),.int .i64 (pat:Int),.int .i64 (tr:Int)] w fun e w'=>∃P L M,e= .returned (.tuple #[.pointer (some ⟨P,0,none⟩),.bool true])/\
  As (∀U,(∀x∈U,x<w.heap.size)->PairP U w' P L M (lCfg id pat tr) (newCs 2) (newCs 2) (.slice none 0 0))/\As ((∀x∈P::(L.all++M.all),w.heap.size<=x)/\Kp [] w w'):=by
 have H1:As (Calls Tryz.prog 24 #[.int .i64 (id:Int),.int .i64 (pat:Int),.int .i64 (tr:Int),.slice (some ⟨w.heap.size+1+1,0,none⟩) 2 2] (((w.alloc (.cells #[.int .i64 0,.int .i64 1,.int .i64 2] 3)).alloc (.cells #[.int .i64 1,.int .i64 3] 3)).alloc (.cells #[.slice (some ⟨w.heap.size,0,none⟩) 3 3,.slice (some ⟨w.heap.size+1,0,none⟩) 2 2] 53)) fun e w'=>∃L:Lay,e= .returned (.tuple #[.pointer (some ⟨L.b,0,none⟩),.int .i64 0])/\
  As ((∀U,(∀x∈U,x<w.heap.size)->CoSt U w' L (lCfg id pat tr) (newCs 2))/\(∀x∈L.all,w.heap.size<=x)/\Kp [] w w')):=⟨by
  refine(new_good id pat tr (some ⟨w.heap.size+1+1,0,none⟩) 2 2 [[0,1,2],[1,3]] _ rfl (ri_two w [0,1,2] [1,3] 3 2 rfl rfl _ _) (lCfg_grp id pat tr) h1 h2 h3 (by decide)).mono ?_
  rintro e w' ⟨L,rfl,hc,hl,hk⟩
  have k0:Kp [] w (((w.alloc (.cells #[.int .i64 0,.int .i64 1,.int .i64 2] 3)).alloc (.cells #[.int .i64 1,.int .i64 3] 3)).alloc (.cells #[.slice (some ⟨w.heap.size,0,none⟩) 3 3,.slice (some ⟨w.heap.size+1,0,none⟩) 2 2] 53)):=(((Kp.refl [] w).alloc _).alloc _).alloc _
  exact⟨L,rfl,⟨fun U hU=>hc.out U (fun x hx=>Nat.lt_of_lt_of_le (hU x hx) k0.size),fun x hx=>Nat.le_trans k0.size (hl x hx),k0.trans hk (by simp)⟩⟩⟩
 have H2:As (∀w:World,Calls Tryz.prog 26 #[.int .i64 (id:Int),.int .i64 (pat:Int),.int .i64 (tr:Int),.slice (some ⟨w.heap.size+1+1,0,none⟩) 2 2] (((w.alloc (.cells #[.int .i64 0,.int .i64 1,.int .i64 2] 3)).alloc (.cells #[.int .i64 1,.int .i64 3] 3)).alloc (.cells #[.slice (some ⟨w.heap.size,0,none⟩) 3 3,.slice (some ⟨w.heap.size+1,0,none⟩) 2 2] 53)) fun e w'=>∃L:RLay,e= .returned (.tuple #[.pointer (some ⟨L.b,0,none⟩),.int .i64 0])/\
  As ((∀U,(∀x∈U,x<w.heap.size)->RsSt U w' L (lCfg id pat tr) (newCs 2))/\(∀x∈L.all,w.heap.size<=x)/\Kp [] w w')):=⟨fun w=>by
  refine(cr.new_good id pat tr (some ⟨w.heap.size+1+1,0,none⟩) 2 2 [[0,1,2],[1,3]] _ rfl (ri_two w [0,1,2] [1,3] 3 2 rfl rfl _ _) (lCfg_grp id pat tr) h1 h2 h3 (by decide)).mono ?_
  rintro e w' ⟨L,rfl,hc,hl,hk⟩
  have k0:Kp [] w (((w.alloc (.cells #[.int .i64 0,.int .i64 1,.int .i64 2] 3)).alloc (.cells #[.int .i64 1,.int .i64 3] 3)).alloc (.cells #[.slice (some ⟨w.heap.size,0,none⟩) 3 3,.slice (some ⟨w.heap.size+1,0,none⟩) 2 2] 53)):=(((Kp.refl [] w).alloc _).alloc _).alloc _
  exact⟨L,rfl,⟨fun U hU=>hc.out U (fun x hx=>Nat.lt_of_lt_of_le (hU x hx) k0.size),fun x hx=>Nat.le_trans k0.size (hl x hx),k0.trans hk (by simp)⟩⟩⟩
 clear h1 h2 h3
 go_enter Tryz.func8,Tryz.ntmps8
 go_wp2_with (first
  |(go_at_call 24;refine H1.out.mono ?_;rintro e w1 ⟨L,rfl,HL⟩;clear H1)
  |(go_at_call 26;refine(H2.out _).mono ?_;rintro e w2 ⟨M,rfl,HM⟩;clear H2))
 go_ret2
 have k1:=HL.out.2.2
 have k2:=HM.out.2.2
 have kA:Kp [] w2 (w2.alloc (.cells #[.pointer (some ⟨L.b,0,none⟩),.pointer (some ⟨M.b,0,none⟩),.slice none 0 0] 33)):=(Kp.refl [] w2).alloc _
 have s1:=k1.size
 have s2:=k2.size
 refine⟨w2.heap.size,L,M,rfl,⟨fun U hU=>⟨heap_alloc_new w2 _, ?_, ?_⟩⟩,⟨fun x hx=> ?_,(k1.trans k2 (by simp)).trans kA (by simp)⟩⟩
 ·have h:=HL.out.1 U hU
  have hm:∀x∈M.all,x<w2.heap.size:=fun x hx=>(HM.out.1 [] (by simp)).lt x (List.mem_append.2 (.inl hx))
  refine h.kp (k2.trans kA (by simp)) (by simp) (fun x hx=> ?_)
  simp only[List.mem_cons,List.mem_append,World.size_alloc] at hx⊢
  rcases hx with e|e|e
  ·right;omega
  ·have:=hm x e
   have:=HM.out.2.1 x e
   right;omega
  ·exact .inl e
 ·have hl:∀x∈L.all,x<w1.heap.size:=fun x hx=>(HL.out.1 [] (by simp)).lt x (List.mem_append.2 (.inl hx))
  have h:=HM.out.1 (L.all++U) (fun x hx=>(List.mem_append.1 hx).elim (fun e=>hl x e) (fun e=>by have:=hU x e;omega))
  refine h.kp kA (by simp) (fun x hx=> ?_)
  rcases List.mem_cons.1 hx with e|e
  ·right;simp;omega
  ·exact .inl e
 ·simp only[List.mem_cons,List.mem_append] at hx
  rcases hx with e|e|e
  ·omega
  ·exact HL.out.2.1 x e
  ·have:=HM.out.2.1 x e;omega
theorem Grew.le{w w1:World}{L L1:Lay}(h:Grew w1 L L1)(hs:w.heap.size<=w1.heap.size):Grew w L L1:=⟨h.1,fun x hx=>(h.2 x hx).imp id (fun e=>Nat.le_trans hs e)⟩
theorem cr.RGrew.le{w w1:World}{L L1:RLay}(h:RGrew w1 L L1)(hs:w.heap.size<=w1.heap.size):RGrew w L L1:=⟨h.1,fun x hx=>(h.2 x hx).imp id (fun e=>Nat.le_trans hs e)⟩
def actObj(kd n er hi wh fr:Int)(key:ByteArray)(BV MV:Value):Obj:= .cells #[.int .i64 kd,.int .i64 n,.int .i64 er,.int .i64 hi,.int .i64 wh,.int .i64 fr,.string key,BV,MV] 67
end Go.Proofs.YtdiljpdohmeceaaGreat.co
namespace Go.Proofs.YtdiljpdohmeceaaGreat.co
open Go.RowKit H O opk frame wir
structure ActV where
 kind:Int
 n:Int
 err:Int
 hint:Int
 what:Int
 frm:Int
 key:ByteArray
 b:List Int
 l:List (ByteArray×Int)
structure ActAt(w:World)(b o:Nat)(s:ActV):Prop where
 nums:w.cell? ⟨b,o,none⟩=some (.int .i64 s.kind)/\w.cell? ⟨b,o+1,none⟩=some (.int .i64 s.n)/\w.cell? ⟨b,o+2,none⟩=some (.int .i64 s.err)/\w.cell? ⟨b,o+3,none⟩=some (.int .i64 s.hint)/\w.cell? ⟨b,o+4,none⟩=some (.int .i64 s.what)/\w.cell? ⟨b,o+5,none⟩=some (.int .i64 s.frm)
 key:w.cell? ⟨b,o+6,none⟩=some (.string s.key)
 fb:∃A c,w.cell? ⟨b,o+7,none⟩=some (.slice A s.b.length c)/\Rd w A (iv .u8 s.b)/\s.b.length<=c/\c<=9223372036854775807/\(A=none->c=0)
 fl:∃A c,w.cell? ⟨b,o+8,none⟩=some (.slice A s.l.length c)/\Rd w A (mv s.l)/\s.l.length<=c/\c<=9223372036854775807/\(A=none->c=0)
def ARd(w:World)(A:Option Addr)(l:List ActV):Prop:=∀i (_:i<l.length),∃b o,A=some ⟨b,o,none⟩/\ActAt w b (o+i*9) l[i]
theorem ActAt.kp{w w1:World}{b o:Nat}{s:ActV}(h:ActAt w b o s)(k:Kp [] w w1):ActAt w1 b o s:=by
 obtain⟨a1,a2,a3,a4,a5,a6⟩:=h.nums
 obtain⟨B,d,h3,h4,h5⟩:=h.fb
 obtain⟨C,e,h6,h7,h8⟩:=h.fl
 exact⟨⟨k.cell a1 (by simp),k.cell a2 (by simp),k.cell a3 (by simp),k.cell a4 (by simp),k.cell a5 (by simp),k.cell a6 (by simp)⟩,k.cell h.key (by simp),⟨B,d,k.cell h3 (by simp),k.rd_new h4 (by simp),h5⟩,⟨C,e,k.cell h6 (by simp),k.rd_new h7 (by simp),h8⟩⟩
def actSize(s:ActV):Nat:=3+s.b.length+s.key.size+mSize s.l
def actSum(l:List ActV):Nat:=(l.map actSize).sum
theorem actSum_step(l:List ActV)(k:Nat)(h:k<l.length):actSum (l.take (k+1))=actSum (l.take k)+3+l[k].b.length+l[k].key.size+mSize l[k].l:=by
 rw[take_succ' l k h,actSum,List.map_append,List.sum_append,List.map_singleton,List.sum_singleton]
 simp only[actSum,actSize]
 omega
theorem actSum_take(l:List ActV)(k:Nat):actSum (l.take k)<=actSum l:=by
 have e:l=l.take k++l.drop k:=(List.take_append_drop k l).symm
 conv=>rhs;rw[e]
 simp only[actSum,List.map_append,List.sum_append]
 omega
theorem actSum_mem{l:List ActV}{x:ActV}(h:x∈l):actSize x<=actSum l:=by
 induction l with
 |nil=>cases h
 |cons y l ih=>
  simp only[actSum,List.map_cons,List.sum_cons]
  rcases List.mem_cons.1 h with e|e
  ·subst e;omega
  ·have:=ih e
   simp only[actSum] at this
   omega
theorem mSize_get{l:List (ByteArray×Int)}{j:Nat}(h:j<l.length):l[j].1.size<=mSize l:=by
 have h1:=mSize_step l j h
 have h2:=mSize_le l (j+1)
 omega
theorem actSum_get{l:List ActV}{k:Nat}(h:k<l.length):actSize l[k]<=actSum l:=actSum_mem (List.getElem_mem h)
def HvPost(l:List ActV)(w:World)(e:Ending)(w':World):Prop:=∃b:Bool,e= .returned (.bool b)/\(b=false->actSum (l.take 200)<=6000)/\Kp [] w w'
theorem heavy_any(A:Option Addr)(n c:Nat)(l:List ActV)(w:World)(hn:l.length=n)(hr:ARd w A l)(hs:actSum l<=100000000):
 Calls Tryz.prog 19 #[.slice A n c] w (HvPost l w):=by
 have HN:=As.mk hn
 have HR:=As.mk hr
 have HS:=As.mk hs
 have hn9:n<=100000000:=by
  rw[<-hn]
  have:∀l:List ActV,l.length<=actSum l:=fun l=>by
   induction l with
   |nil=>simp
   |cons x l ih=>simp only[actSum,List.map_cons,List.sum_cons,List.length_cons,actSize] at ih⊢;omega
  exact Nat.le_trans (this l) hs
 clear hn hr hs
 go_enter Tryz.func19,Tryz.ntmps19
 go_wp2
 go_loopw [3,4] (fun s i wr=>∃(t k:Nat),s= .int .i64 (t:Int)/\i= .int .i64 (k:Int)/\k<=n/\k<=200/\As (t=actSum (l.take k))/\t<=6000/\As (Kp [] w wr)) (fun _ i _=>n-(intOf i).toNat)
 case atStart=>exact⟨0,0,rfl,rfl,by omega,by omega,⟨rfl⟩,by omega,⟨Kp.refl _ _⟩⟩
 case round=>
  obtain⟨t,k,rfl,rfl,hk,hk9,HT,ht,HK⟩:=hrel
  obtain⟨wo,rfl⟩:∃wo,wo=wr:=⟨_,rfl⟩
  by_cases hgo:k<n/\k<200
  ·obtain⟨hlt,h200⟩:=hgo
   have hlt':k<l.length:=by rw[HN.out];exact hlt
   obtain⟨b0,o0,rfl,hst0⟩:=HR.out k hlt'
   have hst:=hst0.kp HK.out
   have hsz:=actSum_get hlt'
   have hsu:=HS.out
   have hstep:=actSum_step l k hlt'
   obtain⟨s,hs⟩:∃s,s=l[k]:=⟨_,rfl⟩
   rw[<-hs] at hst hsz hstep
   obtain⟨AB,cB,d7,-,-⟩:=hst.fb
   obtain⟨AL,cL,d8,hrl,-⟩:=hst.fl
   have d6:=hst.key
   obtain⟨nB,hnB⟩:∃m,s.b.length=m:=⟨_,rfl⟩
   obtain⟨nK,hnK⟩:∃m,s.key.size=m:=⟨_,rfl⟩
   obtain⟨nL,hnL⟩:∃m,s.l.length=m:=⟨_,rfl⟩
   rw[hnB] at d7
   rw[hnL] at d8
   have hls:=mSize_len s.l
   rw[actSize,hnB,hnK] at hsz
   rw[hnL] at hls
   have e1:nB<=100000000:=by omega
   have e2:nK<=100000000:=by omega
   have e3:nL<=100000000:=by omega
   have HKK:=As.mk hnK
   have HLL:=As.mk hnL
   have HML:As (mSize s.l<=100000000):=⟨by omega⟩
   obtain⟨t0,ht0⟩:∃t0,t0=t+3+nB+nK:=⟨_,rfl⟩
   have HNX:As (actSum (l.take (k+1))=t0+mSize s.l):=⟨by rw[hstep,<-HT.out,hnB,hnK,ht0]⟩
   have HRL:=As.mk hrl
   have i0:(0:Int)<=(k:Int):=by omega
   have i1:(k:Int)<(n:Int):=by omega
   have i2:(k:Int)<200:=by omega
   have j1:(t:Int)+3+(nB:Int)+(nK:Int)=(t0:Int):=by omega
   have ht09:t0<=300000000:=by omega
   clear hrl hst hst0 hsz hsu hstep hs hnB hnL hls hlt' ht0 HT
   go_upto_region 5 with fail
   go_quiet (fail)
   go_wp2
   go_loopw [3,5] (fun s5 i w2=>∃(t2 j:Nat),s5= .int .i64 (t2:Int)/\i= .int .i64 (j:Int)/\j<=nL/\As (t2=t0+mSize (s.l.take j))/\t2<=400000000/\As (Kp [] wo w2)) (fun _ i _=>nL-(intOf i).toNat)
   case atStart=>exact⟨t0,0,by go_num,rfl,by omega,⟨by simp[mSize]⟩,by omega,⟨by first|exact Kp.refl _ _|exact(Kp.refl [] wo).drewN _⟩⟩
   case round=>
    obtain⟨t2,j,rfl,rfl,hj,HT2,ht2,HK2⟩:=hrel
    have d8:=HK2.out.cell d8 (by simp)
    by_cases hlj:j<nL
    ·have hlj':j<s.l.length:=by rw[HLL.out];exact hlj
     obtain⟨bm,om,rfl,dk0,-⟩:=mv_at HRL.out j hlj'
     have dk:=HK2.out.cell dk0 (by simp)
     clear dk0
     obtain⟨kk,hkk⟩:∃kk,kk=s.l[j].1:=⟨_,rfl⟩
     rw[<-hkk] at dk
     obtain⟨m,hm⟩:∃m,kk.size=m:=⟨_,rfl⟩
     have e4:m<=100000000:=by rw[<-hm,hkk];exact Nat.le_trans (mSize_get hlj') HML.out
     have HT3:As (t2+5+m=t0+mSize (s.l.take (j+1))):=⟨by rw[mSize_step s.l j hlj',<-hkk,hm,HT2.out];omega⟩
     have ht3:t2+5+m<=400000000:=by have h1:=HT3.out;have h2:=mSize_le s.l (j+1);have h3:=HML.out;omega
     have j0:(0:Int)<=(j:Int):=by omega
     have jj1:(j:Int)<(nL:Int):=by omega
     have HKM:=As.mk hm
     clear hlj' hkk
     go_wp2
     go_roundw
     case rel=>exact⟨t2+5+m,j+1,by go_num,by go_num,by omega,HT3,ht3,by first|exact HK2|exact⟨HK2.out.drewN _⟩⟩
     case measure=>simp[intOf];omega
    ·obtain rfl:j=nL:=by omega
     have htk:s.l.take j=s.l:=List.take_of_length_le (by rw[HLL.out];exact Nat.le_refl _)
     have HT4:As (t2=actSum (l.take (k+1))):=⟨by rw[HNX.out,HT2.out,htk]⟩
     have HKE:As (Kp [] w wr):=⟨HK.out.trans HK2.out (by simp)⟩
     clear htk
     by_cases h6:6000<t2
     ·have i6:(6000:Int)<(t2:Int):=by omega
      go_wp2
      go_ret
      exact⟨true,rfl,by simp,HKE.out⟩
     ·have i6:¬(6000:Int)<(t2:Int):=by omega
      go_wp2
      go_roundw
      case rel=>exact⟨t2,k+1,by go_num,by go_num,by omega,by omega,HT4,by omega,by first|exact HKE|exact⟨HKE.out.drewN _⟩⟩
      case measure=>simp[intOf];omega
  ·have HF:As (actSum (l.take 200)<=6000):=⟨by
    have h1:=HT.out
    rcases (by omega:k=200\/k=n) with e|e
    ·rw[e] at h1;omega
    ·have:l.take k=l:=List.take_of_length_le (by rw[HN.out];omega)
     rw[this] at h1
     have:=actSum_take l 200
     omega⟩
   rcases (by omega:¬k<n\/(k<n/\¬k<200)) with e|⟨e1,e2⟩
   ·have i1:¬(k:Int)<(n:Int):=by omega
    clear hgo
    go_wp2
    go_ret
    exact⟨false,rfl,fun _=>HF.out,HK.out⟩
   ·have i1:(k:Int)<(n:Int):=by omega
    have i2:¬(k:Int)<200:=by omega
    clear hgo
    go_wp2
    go_ret
    exact⟨false,rfl,fun _=>HF.out,HK.out⟩
end Go.Proofs.YtdiljpdohmeceaaGreat.co
namespace Go.Proofs.YtdiljpdohmeceaaGreat.H
open Go.ChangeShapes Go.WideShapes Go.ChangeAt Go.RowKit Go.Deep O opk
section
variable {H:Type} {enc:TypeId×Value->H} {W:World}
theorem bulk_one(d:DataW H):1<=Rows.uptoBulk d:=by
 cases d with
 |lit l=>cases l<;>simp[Rows.uptoBulk]
 |nil=>simp[Rows.uptoBulk]
 |ptr d=>simp[Rows.uptoBulk]
 |slice elems spare=>simp[Rows.uptoBulk]
 |agg parts=>simp[Rows.uptoBulk]
 |iface t d=>simp[Rows.uptoBulk]
 |map entries=>simp[Rows.uptoBulk]
 |held h=>simp[Rows.uptoBulk]
theorem bulk_part{d:DataW H}{l:List (DataW H)}(h:d∈l):Rows.uptoBulk d<=Rows.uptoBulkAll l:=by
 induction l with
 |nil=>cases h
 |cons x r ih=>
  simp only[Rows.uptoBulkAll]
  rcases List.mem_cons.1 h with e|e
  ·subst e;omega
  ·have:=ih e;omega
theorem bulk_app(l r:List (DataW H)):Rows.uptoBulkAll (l++r)=Rows.uptoBulkAll l+Rows.uptoBulkAll r:=by
 induction l with
 |nil=>simp[Rows.uptoBulkAll]
 |cons x l ih=>simp only[List.cons_append,Rows.uptoBulkAll,ih];omega
theorem bulk_len(l:List (DataW H)):l.length<=Rows.uptoBulkAll l:=by
 induction l with
 |nil=>simp
 |cons x r ih=>have:=bulk_one x;simp only[Rows.uptoBulkAll,List.length_cons];omega
theorem open_msb{A:Option Addr}{n c:Nat}{d:DataW H}{ps:List MemPlace}(h:DataW.Trod enc Tryz.prog W 0 (fun _=>true) true 59 (.slice A n c) d ps):
 ∃ms:List (ByteArray×Int),ms.length=n/\Rd W A (mv ms)/\n<=c/\c<=9223372036854775807/\(A=none->c=0)/\(∀x∈ms,(Lit.int .i64 x.2).wf=true)/\mSize ms<=2*Rows.uptoBulk d:=by
 have h':=h
 obtain⟨fuel,hf⟩:=h
 rcases open_slice_pairs (f0:={name:= "Key",type:=9,offset:=0,embedded:=false,tag:= "",pkgPath:= "",byteOffset:=0}) (f1:={name:= "At",type:=3,offset:=1,embedded:=false,tag:= "",pkgPath:= "",byteOffset:=16}) Tryz.underlying59 Tryz.underlying73 (by kernel_rfl) rfl rfl (by kernel_rfl) (by kernel_rfl) hf with⟨hcs,_⟩|⟨a,l,cp,m,k,V0,V1,D0,D1,P0,P1,hcs,_,hl,hm,hmm,hx,he⟩
 ·simp[Value.cells] at hcs
  obtain⟨rfl,rfl,rfl⟩:=hcs
  exact⟨[],rfl,Rd.nil _ _,Nat.le_refl _,by omega,fun _=>rfl,by simp,by simp[mSize]⟩
 ·simp[Value.cells] at hcs
  obtain⟨rfl,rfl,rfl⟩:=hcs
  simp only[if_true] at hmm
  subst hmm
  have key:∀i,i<n->V0 i= .string (strOf (V0 i))/\D0 i= .lit (.string (strOf (V0 i)).data.toList)/\V1 i= .int .i64 (intOf1 (V1 i))/\(Lit.int .i64 (intOf1 (V1 i))).wf=true:=by
   intro i hi
   obtain⟨_,_,t0,t1⟩:=he i (by omega)
   obtain⟨s,hs,hs2,_⟩:=DataW.trod_string Tryz.underlying9 t0
   obtain⟨z,hz,hz2,wz⟩:=DataW.trod_int Tryz.underlying3 t1
   simp only[List.cons.injEq,and_true] at hs hz
   rw[hs,hz]
   exact⟨rfl,(Prod.mk.inj hs2).1,rfl,wz⟩
  refine⟨(List.range n).map fun i=>(strOf (V0 i),intOf1 (V1 i)),by simp, ?_,hl,hm,by simp, ?_, ?_⟩
  ·intro j v hv
   have hj:j<n*2:=by
    have:=(List.getElem?_eq_some_iff.1 hv).1
    rw[mv_len] at this
    simpa using this
   refine⟨a,rfl, ?_⟩
   obtain⟨i,hi⟩:∃i,i=j/2:=⟨_,rfl⟩
   have hin:i<n:=by omega
   obtain⟨c0,c1,_,_⟩:=he i (by omega)
   obtain⟨k0,_,k1,_⟩:=key i hin
   obtain⟨g0,g1⟩:=mv_get ((List.range n).map fun i=>(strOf (V0 i),intOf1 (V1 i))) i (by simpa using hin)
   have hlist:((List.range n).map fun i=>(strOf (V0 i),intOf1 (V1 i)))[i]'(by simpa using hin)=(strOf (V0 i),intOf1 (V1 i)):=by simp
   rw[hlist] at g0 g1
   by_cases hpar:j=i*2
   ·rw[hpar] at hv⊢
    rw[g0] at hv
    cases hv
    rw[c0]
    exact congrArg some k0
   ·have hpar':j=i*2+1:=by omega
    rw[hpar'] at hv⊢
    rw[g1] at hv
    cases hv
    rw[c1]
    exact congrArg some k1
  ·intro x hx
   obtain⟨i,hi,rfl⟩:=List.mem_map.1 hx
   exact(key i (by simpa using hi)).2.2.2
  ·have hd':d= .slice ((List.range n).map fun i=> .agg [D0 i,D1 i]) ((List.range (m-n)).map fun j=> .agg [D0 (n+j),D1 (n+j)]):=(Prod.mk.inj hx).1
   have h1:∀q,q<=n->mSize ((List.range q).map fun i=>(strOf (V0 i),intOf1 (V1 i)))<=2*Rows.uptoBulkAll ((List.range q).map fun i=>(DataW.agg [D0 i,D1 i]:DataW H)):=by
    intro q
    induction q with
    |zero=>intro _;simp[mSize]
    |succ q ih=>
     intro hq
     have ih:=ih (by omega)
     rw[List.range_succ,List.map_append,List.map_append,bulk_app]
     have e2:mSize ((List.range q).map (fun i=>(strOf (V0 i),intOf1 (V1 i)))++[q].map (fun i=>(strOf (V0 i),intOf1 (V1 i))))=mSize ((List.range q).map (fun i=>(strOf (V0 i),intOf1 (V1 i))))+(5+(strOf (V0 q)).size):=by simp[mSize]
     have e3:(strOf (V0 q)).size+3<=Rows.uptoBulkAll ([q].map fun i=>(DataW.agg [D0 i,D1 i]:DataW H)):=by
      have hz:=(key q (by omega)).2.1
      have h9:=bulk_one (D1 q)
      have hl:(strOf (V0 q)).data.toList.length=(strOf (V0 q)).size:=Array.length_toList
      simp only[List.map_cons,List.map_nil,Rows.uptoBulkAll,Rows.uptoBulk]
      rw[hz]
      simp only[Rows.uptoBulk]
      omega
     rw[e2]
     omega
   have h2:=h1 n (Nat.le_refl _)
   rw[hd']
   simp only[Rows.uptoBulk]
   omega
theorem act_slice{P:Program}{t e:TypeId}{fuel:Nat}{v:Value}{x:DataW H×List MemPlace}(ht:P.underlying t=some (.slice e))(h:DataW.trod enc P W 0 (fun _=>true) true fuel t [v]=some x):∃A n c,v= .slice A n c/\n<=Rows.uptoBulk x.1:=by
 rcases open_slice ht h with⟨hcs,hx⟩|⟨a,l,cp,m,k,D,Pl,hcs,_,_,_,_,hx,_⟩
 ·cases hcs
  exact⟨_,_,_,rfl,Nat.zero_le _⟩
 ·cases hcs
  refine⟨_,_,_,rfl, ?_⟩
  rw[hx]
  simp only[Rows.uptoBulk]
  have:=bulk_len ((List.range l).map D)
  simp at this
  omega
theorem open_act{fuel:Nat}{cs:List Value}{x:DataW H×List MemPlace}(hf:DataW.trod enc Tryz.prog W 0 (fun _=>true) true fuel 67 cs=some x):
 ∃(s:co.ActV) (AB:Option Addr) (cB:Nat) (AL:Option Addr) (cL:Nat),cs=[.int .i64 s.kind,.int .i64 s.n,.int .i64 s.err,.int .i64 s.hint,.int .i64 s.what,.int .i64 s.frm,.string s.key,.slice AB s.b.length cB,.slice AL s.l.length cL]/\
  (Rd W AB (iv .u8 s.b)/\s.b.length<=cB/\cB<=9223372036854775807/\(AB=none->cB=0))/\(Rd W AL (mv s.l)/\s.l.length<=cL/\cL<=9223372036854775807/\(AL=none->cL=0))/\Wf s.b/\co.actSize s<=2*Rows.uptoBulk x.1:=by
 obtain⟨xs,n,rfl,hx,hlen,hxl,hfd⟩:=DataW.trod_struct Tryz.underlying67 hf
 have hc9:Tryz.prog.cellsOf 67=9:=by kernel_rfl
 have hone:=hone_of (P:=Tryz.prog) (fs:= #[{name:= "Kind",type:=3,offset:=0,embedded:=false,tag:= "",pkgPath:= "",byteOffset:=0},{name:= "N",type:=3,offset:=1,embedded:=false,tag:= "",pkgPath:= "",byteOffset:=8},{name:= "Err",type:=3,offset:=2,embedded:=false,tag:= "",pkgPath:= "",byteOffset:=16},{name:= "Hint",type:=3,offset:=3,embedded:=false,tag:= "",pkgPath:= "",byteOffset:=24},{name:= "What",type:=3,offset:=4,embedded:=false,tag:= "",pkgPath:= "",byteOffset:=32},{name:= "From",type:=3,offset:=5,embedded:=false,tag:= "",pkgPath:= "",byteOffset:=40},{name:= "Key",type:=9,offset:=6,embedded:=false,tag:= "",pkgPath:= "",byteOffset:=48},{name:= "B",type:=24,offset:=7,embedded:=false,tag:= "",pkgPath:= "",byteOffset:=64},{name:= "L",type:=59,offset:=8,embedded:=false,tag:= "",pkgPath:= "",byteOffset:=88}]) (by kernel_rfl)
 rw[hc9] at hlen
 match cs,hlen with
 |[v0,v1,v2,v3,v4,v5,v6,v7,v8],_=>
  match xs,hxl with
  |[y0,y1,y2,y3,y4,y5,y6,y7,y8],_=>
   have g0:=hfd 0 _ rfl
   have g1:=hfd 1 _ rfl
   have g2:=hfd 2 _ rfl
   have g3:=hfd 3 _ rfl
   have g4:=hfd 4 _ rfl
   have g5:=hfd 5 _ rfl
   have g6:=hfd 6 _ rfl
   have g7:=hfd 7 _ rfl
   have g8:=hfd 8 _ rfl
   rw[(hone 0 _ rfl).2] at g0
   rw[(hone 1 _ rfl).2] at g1
   rw[(hone 2 _ rfl).2] at g2
   rw[(hone 3 _ rfl).2] at g3
   rw[(hone 4 _ rfl).2] at g4
   rw[(hone 5 _ rfl).2] at g5
   rw[(hone 6 _ rfl).2] at g6
   rw[(hone 7 _ rfl).2] at g7
   rw[(hone 8 _ rfl).2] at g8
   simp at g0 g1 g2 g3 g4 g5 g6 g7 g8
   obtain⟨k0,hk0,hd0,wk0⟩:=DataW.trod_int Tryz.underlying3 g0
   obtain⟨k1,hk1,hd1,wk1⟩:=DataW.trod_int Tryz.underlying3 g1
   obtain⟨k2,hk2,hd2,wk2⟩:=DataW.trod_int Tryz.underlying3 g2
   obtain⟨k3,hk3,hd3,wk3⟩:=DataW.trod_int Tryz.underlying3 g3
   obtain⟨k4,hk4,hd4,wk4⟩:=DataW.trod_int Tryz.underlying3 g4
   obtain⟨k5,hk5,hd5,wk5⟩:=DataW.trod_int Tryz.underlying3 g5
   obtain⟨key,hkey,hkey2,wkey⟩:=DataW.trod_string Tryz.underlying9 g6
   obtain⟨AB,nB,cB,rfl,hbB⟩:=act_slice Tryz.underlying24 g7
   obtain⟨AL,nL,cL,rfl,hbL⟩:=act_slice Tryz.underlying59 g8
   cases hk0
   cases hk1
   cases hk2
   cases hk3
   cases hk4
   cases hk5
   cases hkey
   obtain⟨z6,zp6⟩:=y6
   obtain⟨z7,zp7⟩:=y7
   obtain⟨z8,zp8⟩:=y8
   have T7:DataW.Trod enc Tryz.prog W 0 (fun _=>true) true 24 (.slice AB nB cB) z7 zp7:=⟨n,by simpa [Value.cells] using g7⟩
   have T8:DataW.Trod enc Tryz.prog W 0 (fun _=>true) true 59 (.slice AL nL cL) z8 zp8:=⟨n,by simpa [Value.cells] using g8⟩
   obtain⟨BB,hB,hBr,hBc,hBm,hBn,hBw⟩:=open_nums Tryz.underlying24 Tryz.underlying5 (by kernel_rfl) T7
   obtain⟨MM,hM,hMr,hMc,hMm,hMn,hMw,hMb⟩:=open_msb T8
   subst hB hM
   refine⟨⟨k0,k1,k2,k3,k4,k5,key,BB,MM⟩,AB,cB,AL,cL,rfl,⟨hBr,hBc,hBm,hBn⟩,⟨hMr,hMc,hMm,hMn⟩,fun x hx=>wf_u8 (hBw x hx), ?_⟩
   obtain⟨hx1,hx2⟩:=Prod.mk.inj hx
   rw[hx1]
   have e6:key.size+1<=Rows.uptoBulk z6:=by
    have e:z6= .lit (.string key.data.toList):=(Prod.mk.inj hkey2).1
    rw[e]
    simp only[Rows.uptoBulk,Array.length_toList]
    exact Nat.le_refl _
   have e0:=bulk_one y0.1
   have e1:=bulk_one y1.1
   have e2:=bulk_one y2.1
   have hbB:BB.length<=Rows.uptoBulk z7:=hbB
   show 3+BB.length+key.size+mSize MM<=_
   simp only[List.map_cons,List.map_nil,Rows.uptoBulk,Rows.uptoBulkAll]
   omega
instance:Inhabited co.ActV:=⟨⟨0,0,0,0,0,0,⟨#[]⟩,[],[]⟩⟩
theorem open_acts{A:Option Addr}{n c:Nat}{d:DataW H}{ps:List MemPlace}(h:DataW.Trod enc Tryz.prog W 0 (fun _=>true) true 63 (.slice A n c) d ps):
 ∃l:List co.ActV,l.length=n/\co.ARd W A l/\(∀s∈l,Wf s.b)/\co.actSum l<=2*Rows.uptoBulk d:=by
 obtain⟨fuel,hf⟩:=h
 have hc9:Tryz.prog.cellsOf 67=9:=by kernel_rfl
 rcases open_slice Tryz.underlying63 hf with⟨hcs,_⟩|⟨a,l,cp,m,k,D,Pl,hcs,_,hl,hm,hmm,hx,he⟩
 ·simp[Value.cells] at hcs
  obtain⟨rfl,rfl,rfl⟩:=hcs
  exact⟨[],rfl,fun j hj=>absurd hj (by simp),by simp,by simp[co.actSum]⟩
 ·simp[Value.cells] at hcs
  obtain⟨rfl,rfl,rfl⟩:=hcs
  simp only[if_true] at hmm
  subst hmm
  rw[hc9] at he
  have each:∀i,i<n->∃s:co.ActV,a.spot=none/\co.ActAt W a.block (a.off+i*9) s/\Wf s.b/\co.actSize s<=2*Rows.uptoBulk (D i):=by
   intro i hi
   obtain⟨cs,h1,h2⟩:=he i (by omega)
   obtain⟨s,AB,cB,AL,cL,rfl,q1,q2,q3,q4⟩:=open_act h2
   obtain⟨_,_,hcell⟩:=World.cells?_some h1
   have hsp:a.spot=none:=by
    have e0:=World.cell?_spot (hcell 0 (by omega))
    by_cases h0:i=0
    ·subst h0;simpa [Addr.add] using e0
    ·obtain⟨cs0,g1,g2⟩:=he 0 (by omega)
     obtain⟨_,_,_,_,_,rfl,_⟩:=open_act g2
     obtain⟨_,_,gc⟩:=World.cells?_some g1
     simpa [Addr.add] using World.cell?_spot (gc 0 (by omega))
   obtain⟨b,o,sp⟩:=a
   cases hsp
   have cell:∀j v,j<9->([.int .i64 s.kind,.int .i64 s.n,.int .i64 s.err,.int .i64 s.hint,.int .i64 s.what,.int .i64 s.frm,.string s.key,.slice AB s.b.length cB,.slice AL s.l.length cL]:List Value)[j]?=some v->W.cell? ⟨b,o+i*9+j,none⟩=some v:=by
    intro j v hj hv
    have:=hcell j hj
    rw[hv,add_add,add_plain] at this
    rw[Nat.add_assoc]
    exact this
   exact⟨s,rfl,⟨⟨cell 0 _ (by omega) rfl,cell 1 _ (by omega) rfl,cell 2 _ (by omega) rfl,cell 3 _ (by omega) rfl,cell 4 _ (by omega) rfl,cell 5 _ (by omega) rfl⟩,cell 6 _ (by omega) rfl,⟨AB,cB,cell 7 _ (by omega) rfl,q1⟩,⟨AL,cL,cell 8 _ (by omega) rfl,q2⟩⟩,q3,q4⟩
  obtain⟨f,hfs⟩:=choose_lt each
  refine⟨(List.range n).map f,by simp, ?_, ?_, ?_⟩
  ·intro i hi
   have hin:i<n:=by simpa using hi
   obtain⟨h1,h2,_⟩:=hfs i hin
   refine⟨a.block,a.off, ?_, ?_⟩
   ·obtain⟨b,o,sp⟩:=a
    cases h1
    rfl
   ·rw[List.getElem_map,List.getElem_range]
    exact h2
  ·intro s hs
   obtain⟨i,hi,rfl⟩:=List.mem_map.1 hs
   exact(hfs i (by simpa using hi)).2.2.1
  ·have h1:∀q,q<=n->co.actSum ((List.range q).map f)<=2*Rows.uptoBulkAll ((List.range q).map D):=by
    intro q
    induction q with
    |zero=>intro _;simp[co.actSum]
    |succ q ih=>
     intro hq
     have ih:=ih (by omega)
     rw[List.range_succ,List.map_append,List.map_append,bulk_app]
     have e2:co.actSum ((List.range q).map f++[q].map f)=co.actSum ((List.range q).map f)+co.actSize (f q):=by simp[co.actSum]
     have e3:=(hfs q (by omega)).2.2.2
     have e4:Rows.uptoBulkAll ([q].map D)=Rows.uptoBulk (D q):=by simp[Rows.uptoBulkAll]
     rw[e2,e4]
     omega
   have h2:=h1 n (Nat.le_refl _)
   rw[(Prod.mk.inj hx).1]
   simp only[Rows.uptoBulk]
   omega
end
end Go.Proofs.YtdiljpdohmeceaaGreat.H
namespace Go.Proofs.YtdiljpdohmeceaaGreat.co
open Go.RowKit H O opk frame wir
def RowO(w:World)(e:TypeId)(size:Nat)(v:Value)(n:Nat)(vs:List Value):Prop:=
 (v= .slice none 0 0/\n=0/\vs=[])\/
 ∃b o c cur,v= .slice (some ⟨b,o,none⟩) n c/\vs.length=n*size/\w.heap[b]?=some (.cells cur e (0,0))/\n<=c/\o+c*size<=cur.size/\c<=maxLen/\∀i u,vs[i]?=some u->cur[o+i]?=some u
theorem RowO.kp{V:List Nat}{w w1:World}{e:TypeId}{size:Nat}{v:Value}{n:Nat}{vs:List Value}(h:RowO w e size v n vs)(k:Kp V w w1)(hg:∀x,v.ownBlock=some x->x∉V):RowO w1 e size v n vs:=by
 rcases h with h|⟨b,o,c,cur,rfl,h2,h3,h4⟩
 ·exact .inl h
 ·exact .inr ⟨b,o,c,cur,rfl,h2,k.blk h3 (hg b rfl),h4⟩
theorem RowO.lt{w:World}{e:TypeId}{size:Nat}{v:Value}{n:Nat}{vs:List Value}(h:RowO w e size v n vs):∀x,v.ownBlock=some x->x<w.heap.size:=by
 rcases h with⟨rfl,_⟩|⟨b,o,c,cur,rfl,h2,h3,h4⟩
 ·intro x hx;cases hx
 ·intro x hx
  have:b=x:=by simpa [Value.ownBlock] using hx
  subst this
  exact lt_of_block h3
theorem RowO.form{w:World}{e:TypeId}{size:Nat}{v:Value}{n:Nat}{vs:List Value}(h:RowO w e size v n vs):∃A c,v= .slice A n c/\n<=c/\(A=none->c=0):=by
 rcases h with⟨rfl,rfl,_⟩|⟨b,o,c,cur,rfl,h2,h3,h4,_⟩
 ·exact⟨none,0,rfl,Nat.le_refl _,fun _=>rfl⟩
 ·exact⟨_,c,rfl,h4,fun e=>by cases e⟩
theorem RowO.of_own{w:World}{e:TypeId}{size n:Nat}{v:Value}{vs:List Value}(h:w.ownsRow 0 e size v n vs):RowO w e size v n vs:=by
 have hl:=h.1
 rcases h.2 with⟨rfl,h0⟩|⟨g,cap,cur,rfl,_,hg,h1,h2,h3,h4⟩
 ·subst h0
  exact .inl ⟨rfl,rfl,List.eq_nil_of_length_eq_zero (by simpa using hl)⟩
 ·refine .inr ⟨g,0,cap,cur,rfl,hl,hg,h1,by omega,h2,fun i u hi=> ?_⟩
  have hil:=(List.getElem?_eq_some_iff.1 hi).1
  have e:(cur.toList.take (n*size))[i]?=some u:=by rw[h4,hi]
  rw[List.getElem?_take,if_pos (by omega)] at e
  simpa using e
theorem RowO.cell{w:World}{e:TypeId}{size n:Nat}{v:Value}{vs:List Value}(h:RowO w e size v n vs)(hn:0<n):∃b o c,v= .slice (some ⟨b,o,none⟩) n c/\n<=c/\∀i u,vs[i]?=some u->w.cell? ⟨b,o+i,none⟩=some u:=by
 rcases h with⟨_,h0,_⟩|⟨b,o,c,cur,rfl,h2,h3,h4,h5,h6,h7⟩
 ·omega
 ·exact⟨b,o,c,rfl,h4,fun i u hi=>bkc h3 _ (h7 i u hi)⟩
theorem RowO.drop{w:World}{e:TypeId}{size n b o c:Nat}{vs:List Value}(h:RowO w e size (.slice (some ⟨b,o,none⟩) n c) n vs)(k:Nat)(hk:k<=n):RowO w e size (.slice (some ⟨b,o+k*size,none⟩) (n-k) (c-k)) (n-k) (vs.drop (k*size)):=by
 rcases h with⟨e1,_⟩|⟨b',o',c',cur,e1,h2,h3,h4,h5,h6,h7⟩
 ·cases e1
 ·simp only[Value.slice.injEq,Option.some.injEq,Addr.mk.injEq,true_and,and_true] at e1
  obtain⟨⟨rfl,rfl⟩,rfl⟩:=e1
  refine .inr ⟨b,o+k*size,c-k,cur,rfl,by rw[List.length_drop,h2,Nat.sub_mul],h3,by omega, ?_,by omega,fun i u hi=> ?_⟩
  ·have:k*size+(c-k)*size=c*size:=by rw[<-Nat.add_mul];congr 1;omega
   omega
  ·rw[List.getElem?_drop] at hi
   have:=h7 _ u hi
   rw[show o+k*size+i=o+(k*size+i) by omega]
   exact this
theorem kp_setCells(b:Nat):∀(vs:List Value) (o:Nat) (w:World),Kp [b] w (w.setCells b o vs)
 |[],_,w=>Kp.refl _ w
 |u::vs,o,w=>((Kp.refl [b] w).setCell (.inl (by simp)) u).trans (kp_setCells b vs (o+1) (w.setCell ⟨b,o,none⟩ u)) (fun x hx=> .inl hx)
theorem heap_setCells_same(b:Nat)(t:TypeId):∀(vs:List Value) (o:Nat) (w:World) (cur:Array Value),w.heap[b]?=some (.cells cur t (0,0))->∃cur',(w.setCells b o vs).heap[b]?=some (.cells cur' t (0,0))/\cur'.size=cur.size/\(∀j,j<o->cur'[j]?=cur[j]?)/\(o+vs.length<=cur.size->∀j u,vs[j]?=some u->cur'[o+j]?=some u)
 |[],o,w,cur,h=>⟨cur,h,rfl,fun _ _=>rfl,fun _ j u hj=>by simp at hj⟩
 |x::vs,o,w,cur,h=>by
  obtain⟨cur',h1,h2,h3,h4⟩:=heap_setCells_same b t vs (o+1) (w.setCell ⟨b,o,none⟩ x) (cur.setIfInBounds o x) (heap_setCell_same w b o _ _ x h)
  refine⟨cur',h1,by rw[h2];simp,fun j hj=> ?_,fun hl j u hj=> ?_⟩
  ·rw[h3 j (by omega),Array.getElem?_setIfInBounds_ne (by omega)]
  ·simp only[List.length_cons] at hl
   cases j with
   |zero=>
    simp only[List.getElem?_cons_zero,Option.some.injEq] at hj
    subst hj
    rw[Nat.add_zero,h3 o (by omega),Array.getElem?_setIfInBounds_self]
    simp;omega
   |succ j=>
    have:=h4 (by simp;omega) j u (by simpa using hj)
    rw[show o+(j+1)=o+1+j by omega]
    exact this
theorem run_rowo{P:Program}{w:World}(t ty e:TypeId)(z:Value)(size bytes:Nat)(ht:P.underlying t=some (.slice e))(hI:(P.info? e).map (fun i=>(i.zero,i.size,i.bytes))=some (some z,size,bytes))(hzs:z.cells.size=size)(hsz:0<size)
 (v:Value) (n:Nat) (vs:List Value) (hq:RowO w e size v n vs) (A:Option Addr) (m c:Nat) (news:List Value) (hl:news.length=m*size) (hrd:Rd w A news) (hnil:A=none->c=0) (h1:∀u∈news,u.oneCell'=true) (hb:(n+m)*bytes<=140737488355328) (hm:n+m<=140737488355328):
 ∃v' w',(Builtin.append_ #[t,t] ty #[v,.slice A m c]).run P w= .ok v' w'/\RowO w' e size v' (n+m) (vs++news)/\Kp v.ownBlock.toList w w'/\At w.heap.size v.ownBlock v'.ownBlock:=by
 obtain⟨i,hi,hz,hs,hby⟩:=info_parts hI
 rcases hq with⟨rfl,rfl,rfl⟩|⟨b,o,c0,cur,rfl,hvl,hbk,h4,h5,h6,h7⟩
 ·obtain⟨v',w',hr,h2,h3,h4,h5⟩:=run_app (P:=P) w t ty e z size bytes ht hI hzs hsz (.slice none 0 0) 0 [] (World.ownsRow_nil w 0 _ size) A m c news hl hrd hnil h1 hb hm
  exact⟨v',w',hr,.of_own h2,h3,h4⟩
 ·cases A with
  |none=>
   have hc:=hnil rfl
   have hn0:news=[]:=by
    cases news with
    |nil=>rfl
    |cons x r=>obtain⟨a,ha,_⟩:=hrd 0 x rfl;cases ha
   subst hn0
   have hm0:m=0:=by
    rcases Nat.eq_zero_or_pos m with h|h
    ·exact h
    ·have:0<m*size:=Nat.mul_pos h hsz
     simp at hl
     omega
   subst hm0 hc
   have hr:(Builtin.append_ #[t,t] ty #[.slice (some ⟨b,o,none⟩) n c0,.slice none 0 0]).run P w= .ok (.slice (some ⟨b,o,none⟩) n c0) w:=by
    simp[Builtin.append_,run_underlying ht,sizeOf,typeInfo,hi,Builtin.lenOf,h4,Builtin.firstCells,storeCells]
   exact⟨_,w,hr,.inr ⟨b,o,c0,cur,rfl,by simpa using hvl,hbk,h4,h5,h6,by simpa using h7⟩,Kp.refl _ _,.inl rfl⟩
  |some a=>
   have hnews:∀j u,news[j]?=some u->w.cell? (a.add j)=some u:=by
    intro j u hu
    obtain⟨a',ha,hc⟩:=hrd j u hu
    cases ha
    exact hc
   by_cases hroom:n+m<=c0
   ·have hsum:n*size+m*size<=c0*size:=by rw[<-Nat.add_mul];exact Nat.mul_le_mul_right _ hroom
    have hr:=run_append_room_cells (P:=P) w t ty e i ht hi b o n c0 a m c news (by rw[hs];exact hl) hnews h1 hroom
     (fun j hj=>by
      have hlt:o+n*i.size+j<cur.size:=by rw[hs];omega
      rw[bkc hbk (o+n*i.size+j) (v:=cur[o+n*i.size+j]) (by simp)]
      rfl)
     (fun j hj=>frozen_of_row w b _ cur _ hbk)
    rw[hs] at hr
    obtain⟨cur',g1,g2,g3,g4⟩:=heap_setCells_same b e news (o+n*size) w cur hbk
    refine⟨_,_,hr,.inr ⟨b,o,c0,cur',rfl,by rw[List.length_append,hvl,hl,Nat.add_mul],g1,hroom,by omega,h6,fun j u hj=> ?_⟩,kp_setCells b news _ w,.inl rfl⟩
    by_cases hjl:j<vs.length
    ·rw[List.getElem?_append_left hjl] at hj
     rw[g3 _ (by omega)]
     exact h7 j u hj
    ·rw[List.getElem?_append_right (by omega)] at hj
     have:=g4 (by omega) _ u hj
     rw[show o+n*size+(j-vs.length)=o+j by omega] at this
     exact this
   ·have hold:∀(j:Nat) (u:Value),vs[j]?=some u->w.cell? ((⟨b,o,none⟩:Addr).add j)=some u:=by
     intro j u hj
     rw[Go.WideShapes.add_plain]
     exact bkc hbk _ (h7 j u hj)
    obtain⟨v',w',hr,g1,g2⟩:=run_append_arg_grows (P:=P) w t ty e i z size bytes ht hi hz hs hby hzs hsz ⟨b,o,none⟩ n c0 vs hvl hold a m c news hl hnews (by omega) (by unfold maxLen;omega) hb
    have g3:w'.ownsRow 0 e size v' (n+m) (vs++news):=own_base g1 (base':=0) (fun _ _=>Nat.zero_le _)
    refine⟨v',w',hr,.of_own g3,((Kp.refl [] w).grown g2 (by simp)).mono (by simp), ?_⟩
    obtain⟨g',cap,rfl,_⟩:=own_form g3 (by omega)
    refine .inr ⟨g',rfl, ?_⟩
    rcases g1.2 with⟨e,_⟩|⟨g'',cap',cur',e,hle,_⟩
    ·simp at e
    ·simp only[Value.slice.injEq,Option.some.injEq,Addr.mk.injEq] at e
     have:=e.1.1
     omega
theorem wpList_rowo{P:Program}{w:World}{ops:Array Oper}{rest:List Oper}{o:Oper}{a:Act}{Q:Exit->Act->World->Prop}(hgd:o.guard=none)(s x:Operand)(t:TypeId)
 (ho:o.op= .call {callee:= .builtin .append,args:= #[s,x],argTypes:= #[t,t]}) (e:TypeId) (z:Value) (size bytes:Nat) (ht:P.underlying t=some (.slice e)) (hI:(P.info? e).map (fun i=>(i.zero,i.size,i.bytes))=some (some z,size,bytes)) (hzs:z.cells.size=size) (hsz:0<size)
 (v:Value) (n:Nat) (vs:List Value) (hs:a.eval s=v) (hq:RowO w e size v n vs) (A:Option Addr) (m c:Nat) (news:List Value) (hx:a.eval x= .slice A m c) (hl:news.length=m*size) (hrd:Rd w A news) (hnil:A=none->c=0) (h1:∀u∈news,u.oneCell'=true) (hb:(n+m)*bytes<=140737488355328) (hm:n+m<=140737488355328)
 (h:∀v' w',RowO w' e size v' (n+m) (vs++news)->Kp v.ownBlock.toList w w'->At w.heap.size v.ownBlock v'.ownBlock->wpList P ops Q rest (a.put o.dst v') w'):wpList P ops Q (o::rest) a w:=by
 refine wpList_plain hgd fun K hK=> ?_
 obtain⟨v',w',hr,h2,h3,h4⟩:=run_rowo (P:=P) t o.type e z size bytes ht hI hzs hsz v n vs hq A m c news hl hrd hnil h1 hb hm
 unfold Oper.wp execOp
 simp only[ho,resolve,invoke,builtin,Sem.run_bind,Sem.run_pure,Result.andThen_ok,List.map_toArray,List.map_cons,List.map_nil,hs,hx,hr]
 exact hK _ _ (h v' w' h2 h3 h4)
end Go.Proofs.YtdiljpdohmeceaaGreat.co
namespace Go.Proofs.YtdiljpdohmeceaaGreat.haystacklaw24
open Go.RowKit H
theorem ret_bool{a b:Bool}(h:a=b):Ending.returned (.bool a)= .returned (.bool b):=by rw[h]
theorem take_eq_step{xs ys:List Int}{k:Nat}(h:xs.take k=ys.take k)(hx:k<xs.length)(hy:k<ys.length)(he:xs[k]=ys[k]):xs.take (k+1)=ys.take (k+1):=by
 rw[List.take_succ_eq_append_getElem hx,List.take_succ_eq_append_getElem hy,h,he]
theorem same_any(A0 A1:Option Addr)(n0 c0 n1 c1:Nat)(xs ys:List Int)(w:World)(l0:xs.length=n0)(l1:ys.length=n1)(h0:Rd w A0 (iv .u8 xs))(h1:Rd w A1 (iv .u8 ys))(hm:xs.length<=9223372036854775807):
 Calls Tryz.prog 14 #[.slice A0 n0 c0,.slice A1 n1 c1] w fun e w'=>e= .returned (.bool (decide (xs=ys)))/\∃n,w'=w.drewN n:=by
 subst l0 l1
 have H0:=As.mk h0
 have H1:=As.mk h1
 clear h0 h1
 by_cases hl:xs.length=ys.length
 ·have b1:((xs.length:Int) !=(ys.length:Int))=false:=by simp[hl]
  have HL:=As.mk hl
  clear hl
  go_enter Tryz.func14,Tryz.ntmps14
  go_wp2
  go_loopw [5] (fun i wr=>∃k:Nat,i= .int .i64 k/\k<=xs.length/\As (xs.take k=ys.take k)/\∃n,wr=w.drewN n) (fun i _=>xs.length-(intOf i).toNat)
  case atStart=>exact⟨0,rfl,by omega,⟨rfl⟩,0,rfl⟩
  case round=>
   obtain⟨k,rfl,hk,HT,n,rfl⟩:=hrel
   by_cases hlt:k<xs.length
   ·have hlt2:k<ys.length:=by have:=HL.out;omega
    obtain⟨a0,rfl,d0⟩:=H0.out.int k hlt
    obtain⟨a1,rfl,d1⟩:=H1.out.int k hlt2
    by_cases he:xs[k]=ys[k]
    ·have e1:(xs[k] !=ys[k])=false:=by simp[he]
     have HE:=As.mk he
     clear he
     go_wp2
     go_quiet (fail)
     go_wp2
     go_roundw
     case rel=>exact⟨k+1,by go_num,by omega,⟨take_eq_step HT.out hlt hlt2 HE.out⟩,_,rfl⟩
     case measure=>simp[intOf];omega
    ·have e1:(xs[k] !=ys[k])=true:=by simp[he]
     have HE:=As.mk he
     clear he
     go_wp2
     go_quiet (fail)
     go_wp2
     go_ret
     exact⟨ret_bool (by symm;rw[decide_eq_false_iff_not];intro e;subst e;exact HE.out rfl),by first|exact⟨_,rfl⟩|exact⟨_,World.drewN_drewN ..⟩⟩
   ·go_wp2
    go_ret
    exact⟨ret_bool (by
     symm
     rw[decide_eq_true_eq]
     have e:=HT.out
     have:=HL.out
     rwa[List.take_of_length_le (by omega),List.take_of_length_le (by omega)] at e),_,rfl⟩
 ·have b1:((xs.length:Int) !=(ys.length:Int))=true:=by simp;omega
  have HL:=As.mk hl
  clear hl
  go_enter Tryz.func14,Tryz.ntmps14
  go_wp2
  go_ret
  exact⟨ret_bool (by symm;rw[decide_eq_false_iff_not];intro e;subst e;exact HL.out rfl),0,rfl⟩
end Go.Proofs.YtdiljpdohmeceaaGreat.haystacklaw24
