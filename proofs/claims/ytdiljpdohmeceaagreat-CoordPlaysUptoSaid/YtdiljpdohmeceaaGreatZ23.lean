/- Words and walks that this claim rests on: proved lemmas alone. -/
import Derived.Test.YtdiljpdohmeceaaGreatZ22
set_option maxHeartbeats 16000000
set_option maxRecDepth 100000
namespace Go.Proofs.YtdiljpdohmeceaaGreat.co
open Go.RowKit H O opk frame wir
theorem index_nil(bd:Array Value)(w:World):Calls Tryz.prog 45 #[.slice none 0 0,.func (.func 46) #[] bd] w fun e w'=>e= .returned (.int .i64 (-1))/\∃q,w'=w.drewN q:=by
 go_enter Tryz.func45,Tryz.ntmps45
 go_wp2
 refine wp_loop_rounds 1 ?_
 rw[rounds_succ]
 go_wp2
 go_ret
 exact⟨rfl,0,rfl⟩
structure HearA(w W w4:World)(rb:Nat)(ctx er hint:Int)(AD:Option Addr)(nD cD:Nat)(dat:List Int):Prop where
 kp:Kp [] w w4
 kp2:Kp [] W w4
 blk:w4.heap[rb]?=some (.cells #[.int .i64 ctx,.int .i64 er,.int .i64 hint,.slice AD nD cD] 112 (0,0))
 rb:w.heap.size<=rb
 own:Own 5 .u8 w4 w.heap.size (.slice AD nD cD) dat
theorem HearA.mk2{w w2 w4 wX:World}{ctx er hint:Int}{AD:Option Addr}{nD cD:Nat}{dat:List Int}(k:Kp [] w w2)(kX:Kp [] wX w2)(o:Own 5 .u8 w2 wX.heap.size (.slice AD nD cD) dat)(hq:∃q,w4=(w2.alloc (.cells #[.int .i64 ctx,.int .i64 er,.int .i64 hint,.slice AD nD cD] 112)).drewN q)(hX:w.heap.size<=wX.heap.size):
 HearA w wX w4 w2.heap.size ctx er hint AD nD cD dat:=by
 obtain⟨q,rfl⟩:=hq
 exact⟨(k.alloc _).drewN q,(kX.alloc _).drewN q,heap_alloc_new w2 _,k.size,(o.kp (((Kp.refl [] w2).alloc _).drewN q) (by simp)).lower hX⟩
theorem asks_index{U:List Nat}{w:World}{L:Lay}{cf:Cfg}{s:Cs}{κ:Nat->Nat}{VS VW VJ VD MV:Value}{l:List (ByteArray×Int)}{AA:Option Addr}{na cA:Nat}(h:CoP U w L cf s κ VS VW VJ VD MV (.slice AA na cA) l)(hal:L.az.length=na)(hna:s.asks.length=na)(hn8:na<=8){w2:World}(k:Kp [] w w2)(ctx er hint:Int)(AD:Option Addr)(nD cD:Nat)(r:Int)(hr:IdxR (askPr s.asks ctx) na r):
 Calls Tryz.prog 45 #[.slice AA na cA,.func (.func 46) #[] #[.pointer (some ⟨w2.heap.size,0,none⟩)]] (w2.alloc (.cells #[.int .i64 ctx,.int .i64 er,.int .i64 hint,.slice AD nD cD] 112)) fun e w'=>e= .returned (.int .i64 r)/\∃q,w'=(w2.alloc (.cells #[.int .i64 ctx,.int .i64 er,.int .i64 hint,.slice AD nD cD] 112)).drewN q:=by
 obtain⟨w3,hw3⟩:∃w3,w2.alloc (.cells #[.int .i64 ctx,.int .i64 er,.int .i64 hint,.slice AD nD cD] 112)=w3:=⟨_,rfl⟩
 have k3:Kp [] w w3:=by rw[<-hw3];exact k.alloc _
 have hb:w3.heap[w2.heap.size]?=some (.cells #[.int .i64 ctx,.int .i64 er,.int .i64 hint,.slice AD nD cD] 112 (0,0)):=by rw[<-hw3];exact heap_alloc_new w2 _
 rw[hw3]
 have ho:=h.aq.1
 rw[hal] at ho
 rcases Nat.eq_zero_or_pos na with h0|h0
 ·subst h0
  have e:AA=none/\cA=0:=by
   have:=(h.no (List.eq_nil_of_length_eq_zero hna)).1
   simpa using this
  obtain⟨rfl,rfl⟩:=e
  have e:r= -1:=hr.miss (fun j hj=>by omega)
  subst e
  exact index_nil _ w3
 ·obtain⟨ga,cA',e,_⟩:=own_form ho h0
  cases e
  refine index1_any w2.heap.size ga na cA L.az (askPr s.asks ctx) r w3 hal (by omega) (fun i p hp=> ?_) (fun i p q hp=> ?_) hr
  ·refine k3.cell ?_ (by simp)
   have hi2:i<na:=by rw[<-hal];exact(List.getElem?_eq_some_iff.1 hp).1
   have:=ho.cellAt i (by omega)
   rw[this]
   simp[hp]
  ·have hi:i<s.asks.length:=by rw[hna,<-hal];exact(List.getElem?_eq_some_iff.1 hp).1
   have ha:s.asks[i]?=some s.asks[i]:=List.getElem?_eq_getElem hi
   have hA:=(h.aa i _ p ha hp)
   obtain⟨_,c1,_,_,_,_,c8,_⟩:=hA.cells
   have:=hear1_any p w2.heap.size s.asks[i].answered (s.asks[i].ctx:Int) ctx w3 q (k3.cell c8 (by simp)) (k3.cell c1 (by simp)) (bkc hb 0 rfl)
   unfold askPr
   rw[ha]
   exact this
theorem hear_lost(U:List Nat)(w:World)(L:Lay)(cf:Cfg)(s:Cs)(j:Job)(jr:List Job)(frm:Int)(A:Option Addr)(n c:Nat)(data:List Int)(hC:CoSt U w L cf s)(hj:s.jobs=j::jr)(hf0:0<=frm)(hf7:frm<7)(hfew:s.asks.length<=8)(hn:data.length=n)(hr:Rd w A (iv .u8 data))(hc:n<=c)(hw:Wf data)(hm:n<=50000)(hl:(dWRep data).2≠0\/askIx s.asks (dWRep data).1.ctx=none):
 Calls Tryz.prog 17 #[.pointer (some ⟨L.b,0,none⟩),.agg #[.int .i64 frm,.int .i64 (cf.id:Int),.slice A n c]] w (TickPost U L cf (s,[]) w):=by
 have HCS:=As.mk hC
 obtain⟨κ,VS,VW,VJ,VD,MV,AV,l,h⟩:=hC
 have HP:=As.mk h
 have hjl:=h.jl
 rw[hj] at hjl
 obtain⟨p0,ps,hjs⟩:∃p ps,L.js=p::ps:=by
  cases e:L.js with
  |nil=>rw[e] at hjl;simp at hjl
  |cons p ps=>exact⟨p,ps,rfl⟩
 obtain⟨qb,qo,qc,rfl,q0⟩:=h.jq.cell (i:=0) (p:=p0) (by rw[hjs];rfl)
 obtain⟨m,hm1⟩:∃m,L.js.length=m+1:=⟨ps.length,by rw[hjs];rfl⟩
 have hd:=h.hd
 rw[hm1] at hd
 rw[Nat.add_zero] at q0
 unfold ptr at q0
 obtain⟨tv,dv,hp,_,_⟩:=h.ja 0 j p0 (by rw[hj];rfl) (by rw[hjs];rfl)
 rw[if_pos rfl,if_pos rfl] at hp
 obtain⟨na,hna⟩:∃na,s.asks.length=na:=⟨_,rfl⟩
 rw[hna] at hfew
 have hal:L.az.length=na:=by rw[h.al,hna]
 have hao:=h.aq.1
 rw[hal] at hao
 obtain⟨AA,cA,rfl,_⟩:=own_rd hao
 have HAQ:=As.mk hao
 obtain⟨W,hW⟩:∃W,W=w.alloc (msgObj frm (cf.id:Int) A n c):=⟨_,rfl⟩
 have kW:Kp [] w W:=by rw[hW];exact(Kp.refl [] w).alloc _
 have hb:W.heap[w.heap.size]?=some (msgObj frm (cf.id:Int) A n c):=by rw[hW];exact heap_alloc_new w _
 have m0:W.cell? ⟨w.heap.size,0,none⟩=some (.int .i64 frm):=bkc hb 0 rfl
 have m1:W.cell? ⟨w.heap.size,1,none⟩=some (.int .i64 (cf.id:Int)):=bkc hb 1 rfl
 have m2:W.cell? ⟨w.heap.size,2,none⟩=some (.slice A n c):=bkc hb 2 rfl
 have HMB:=As.mk hb
 have b0:=kW.cell (bkc hd 0 rfl) (by simp)
 have b5:=kW.cell (bkc hd 5 rfl) (by simp)
 have HK:=As.mk kW
 have e1:((cf.id:Int) !=(cf.id:Int))=false:=by simp
 have e2:decide (frm<0)=false:=decide_eq_false (by omega)
 have e3:decide (7<=frm)=false:=decide_eq_false (by omega)
 have e4:((m:Int)+1==0)=false:=by simp;omega
 obtain⟨ctx,hctx⟩:∃x,(dWRep data).1.ctx=x:=⟨_,rfl⟩
 obtain⟨er,her⟩:∃x,(dWRep data).1.err=x:=⟨_,rfl⟩
 obtain⟨hint,hhint⟩:∃x,(dWRep data).1.hint=x:=⟨_,rfl⟩
 obtain⟨dat,hdat⟩:∃x,(dWRep data).1.data=x:=⟨_,rfl⟩
 obtain⟨z,hz⟩:∃x,(dWRep data).2=x:=⟨_,rfl⟩
 have HDR:As (∀wX,Kp [] W wX->Calls Tryz.prog 44 #[.slice A n c] wX fun e w'=>∃AD nD cD,e= .returned (.tuple #[.agg #[.int .i64 ctx,.int .i64 er,.int .i64 hint,.slice AD nD cD],.int .i64 z])/\As (Own 5 .u8 w' wX.heap.size (.slice AD nD cD) dat/\Kp [] wX w')):=⟨fun wX kX=>by
  refine(decodeReply_any A n c data wX hn ((kW.trans kX (by simp)).rd_new hr (by simp)) hc hw (by omega)).mono ?_
  rintro e w' ⟨AD,nD,cD,rfl,o,k⟩
  rw[hctx,her,hhint,hz]
  rw[hdat] at o
  exact⟨AD,nD,cD,rfl,⟨o,k⟩⟩⟩
 have HL:As (∀w2,Kp [] w w2->w2.cell? ⟨L.b,5,none⟩=some (.slice (some ⟨qb,qo,none⟩) (m+1) qc)/\w2.cell? ⟨qb,qo,none⟩=some (.pointer (some ⟨p0,0,none⟩))/\w2.cell? ⟨p0,13,none⟩=some (.slice AA na cA)/\(L.b<w2.heap.size/\¬L.b=w2.heap.size)/\(qb<w2.heap.size/\¬qb=w2.heap.size)/\p0<w2.heap.size/\¬p0=w2.heap.size):=⟨fun w2 k=>by
  have a1:=k.cell (bkc hd 5 rfl) (by simp)
  have a2:=k.cell q0 (by simp)
  have a3:=k.cell (bkc hp 13 rfl) (by simp)
  have s1:=World.block_lt_of_cell? w2 _ a1
  have s2:=World.block_lt_of_cell? w2 _ a2
  have s3:=World.block_lt_of_cell? w2 _ a3
  simp only at s1 s2 s3
  exact⟨a1,a2,a3,⟨s1,by omega⟩,⟨s2,by omega⟩,s3,by omega⟩⟩
 have HIX:As (∀r,IdxR (askPr s.asks ctx) na r->∀w2 AD nD cD,Kp [] w w2->Calls Tryz.prog 45 #[.slice AA na cA,.func (.func 46) #[] #[.pointer (some ⟨w2.heap.size,0,none⟩)]] (w2.alloc (.cells #[.int .i64 ctx,.int .i64 er,.int .i64 hint,.slice AD nD cD] 112)) fun e w'=>e= .returned (.int .i64 r)/\As (∃q,w'=(w2.alloc (.cells #[.int .i64 ctx,.int .i64 er,.int .i64 hint,.slice AD nD cD] 112)).drewN q)):=⟨fun r hr w2 AD nD cD k=>by
  refine(asks_index HP.out hal hna hfew k ctx er hint AD nD cD r hr).mono ?_
  rintro e w' ⟨rfl,q,hq⟩
  exact⟨rfl,⟨q,hq⟩⟩⟩
 obtain⟨r,hix⟩:=idx_ex (askPr s.asks ctx) na
 have hzr:z≠0\/r= -1:=by
  rw[hz,hctx] at hl
  rcases hl with e|e
  ·exact .inl e
  ·right
   have:=askIx_none e
   rw[hna] at this
   exact this.elim (fun⟨i,a1,a2,a3,a4⟩=>by omega) (fun a=>hix.miss a.1)
 have HIX2:=As.mk (HIX.out r hix)
 clear hix HIX hl
 clear h hd hp hal hao hb hn hr hc hw hm hctx her hhint hdat hz hjl hm1 kW q0 hj hjs hna HP HAQ
 by_cases hz0:z=0
 ·obtain rfl:r= -1:=by
   rcases hzr with e|e
   ·exact absurd hz0 e
   ·exact e
  subst hz0
  clear hzr
  unfold msgObj at hW
  go_enter Tryz.func17,Tryz.ntmps17
  go_upto_region 1 with fail
  rw[<-hW]
  clear hW
  go_quiet (fail)
  go_wp2_with (first
   |(go_at_call 44;refine(HDR.out _ ((Kp.refl [] W).drewN _)).mono ?_;rintro e w2 ⟨AD,nD,cD,rfl,HD⟩;have HK2:As (Kp [] w w2):=⟨(HK.out.drewN _).trans HD.out.2 (by simp)⟩;obtain⟨z1,z2,z3,⟨z4,z5⟩,⟨z6,z7⟩,z8,z9⟩:=HL.out w2 HK2.out;have HI2:=As.mk (HIX2.out w2 AD nD cD HK2.out);clear HDR HL HIX2)
   |(go_at_call 45;refine HI2.out.mono ?_;rintro e w4 ⟨rfl,HQ⟩;have HH4:=As.mk (HearA.mk2 HK2.out (((Kp.refl [] W).drewN _).trans HD.out.2 (by simp)) HD.out.1 HQ.out (HK.out.size));clear HI2))
  go_ret
  exact TickPost.nothing HCS.out HH4.out.kp
 ·have bz:(z !=0)=true:=by simpa using hz0
  clear hzr hz0
  unfold msgObj at hW
  go_enter Tryz.func17,Tryz.ntmps17
  go_upto_region 1 with fail
  rw[<-hW]
  clear hW
  go_quiet (fail)
  go_wp2_with (first
   |(go_at_call 44;refine(HDR.out _ ((Kp.refl [] W).drewN _)).mono ?_;rintro e w2 ⟨AD,nD,cD,rfl,HD⟩;have HK2:As (Kp [] w w2):=⟨(HK.out.drewN _).trans HD.out.2 (by simp)⟩;obtain⟨z1,z2,z3,⟨z4,z5⟩,⟨z6,z7⟩,z8,z9⟩:=HL.out w2 HK2.out;have HI2:=As.mk (HIX2.out w2 AD nD cD HK2.out);clear HDR HL HIX2)
   |(go_at_call 45;refine HI2.out.mono ?_;rintro e w4 ⟨rfl,HQ⟩;have HH4:=As.mk (HearA.mk2 HK2.out (((Kp.refl [] W).drewN _).trans HD.out.2 (by simp)) HD.out.1 HQ.out (HK.out.size));clear HI2))
  go_ret
  exact TickPost.nothing HCS.out HH4.out.kp
theorem TickPost.ends{U:List Nat}{w w':World}{L:Lay}{cf:Cfg}{s':Cs}{ps:List Nat}{out:List Msg}(h:EndsI U L cf s' ps w w')(e:out=[]):TickPost U L cf (s',out) w (.returned (.slice none 0 0)) w':=by
 obtain⟨L',h1,h2,_,h4⟩:=h
 subst e
 exact⟨L',_,rfl,h1,OutI.nil _ _,h2,h4⟩
theorem ends_plain{U:List Nat}{w w4:World}{L:Lay}{cf:Cfg}{s:Cs}{κ:Nat->Nat}{VS VW VJ VD MV AV:Value}{l:List (ByteArray×Int)}(h:CoP U w L cf s κ VS VW VJ VD MV AV l){j:Job}{jr:List Job}{p0:Nat}{ps:List Nat}(hj:s.jobs=j::jr)(hjs:L.js=p0::ps)(k:Kp [] w w4)(hd9:s.done.length<=1000000)(e:Int)(he:e≠0):
 Calls Tryz.prog 32 #[.pointer (some ⟨L.b,0,none⟩),.int .i64 e] w4 fun en w'=>en= .returned (.tuple #[])/\EndsI U L cf (endErr s e) ps w w':=by
 obtain⟨tv,dv,hp,_,_⟩:=h.ja 0 j p0 (by rw[hj];rfl) (by rw[hjs];rfl)
 rw[if_pos rfl,if_pos rfl,Nat.add_zero] at hp
 have hmq:=k.own h.mq.1 (by simp)
 have hmv:MSl (L.b::L.gw::(L.gj.toList++L.js)++U++L.gd.toList) w4 MV l:=MSl.own hmq (fun g hg hm=>by
  have h6:=h.sep.gm g (by rw[<-h.mq.2.1];exact hg)
  simp only[List.mem_cons,List.mem_append,List.cons_append,Option.mem_toList] at hm
  rcases hm with e|e|((e|e)|e)|e
  ·have:=h.sep.b;rw[<-e] at this;omega
  ·have:=h.sep.gw;rw[<-e] at this;omega
  ·have:=h.sep.gj g e;omega
  ·have:=h.sep.js g e;omega
  ·have:=h.sep.U g e;omega
  ·have:=h.sep.gd g e;omega)
 have:=ends_any U w w4 L cf s κ VS VW VJ VD MV AV l j jr p0 ps h hj hjs (k.mono (by simp)) false false (.slice none 0 0) MV _ _ _ _ _ _ _ _ [] l e (k.blk hp (by simp)) (BSl.nil _ _) hmv hd9
 rw[resOf,if_neg he] at this
 exact this
theorem hear_other(U:List Nat)(w:World)(L:Lay)(cf:Cfg)(s:Cs)(j:Job)(jr:List Job)(frm:Int)(A:Option Addr)(n c:Nat)(data:List Int)(hC:CoSt U w L cf s)(hj:s.jobs=j::jr)(hf0:0<=frm)(hf7:frm<7)(hfew:s.asks.length<=8)(hn:data.length=n)(hr:Rd w A (iv .u8 data))(hc:n<=c)(hw:Wf data)(hm:n<=50000)(i:Nat)(a:Ask)(hi:askIx s.asks (dWRep data).1.ctx=some i)(ha:s.asks[i]?=some a)(hz0:(dWRep data).2=0)(hd9:s.done.length<=1000000)(he:(dWRep data).1.err≠0/\(dWRep data).1.err≠11/\(dWRep data).1.err≠12/\(dWRep data).1.err≠14/\(dWRep data).1.err≠9/\(dWRep data).1.err≠7):
 Calls Tryz.prog 17 #[.pointer (some ⟨L.b,0,none⟩),.agg #[.int .i64 frm,.int .i64 (cf.id:Int),.slice A n c]] w (TickPost U L cf (endErr s (dWRep data).1.err,[]) w):=by
 have HCS:=As.mk hC
 obtain⟨κ,VS,VW,VJ,VD,MV,AV,l,h⟩:=hC
 have HP:=As.mk h
 have hjl:=h.jl
 rw[hj] at hjl
 obtain⟨p0,ps,hjs⟩:∃p ps,L.js=p::ps:=by
  cases e:L.js with
  |nil=>rw[e] at hjl;simp at hjl
  |cons p ps=>exact⟨p,ps,rfl⟩
 obtain⟨qb,qo,qc,rfl,q0⟩:=h.jq.cell (i:=0) (p:=p0) (by rw[hjs];rfl)
 obtain⟨m,hm1⟩:∃m,L.js.length=m+1:=⟨ps.length,by rw[hjs];rfl⟩
 have hd:=h.hd
 rw[hm1] at hd
 rw[Nat.add_zero] at q0
 unfold ptr at q0
 obtain⟨tv,dv,hp,_,_⟩:=h.ja 0 j p0 (by rw[hj];rfl) (by rw[hjs];rfl)
 rw[if_pos rfl,if_pos rfl] at hp
 obtain⟨na,hna⟩:∃na,s.asks.length=na:=⟨_,rfl⟩
 rw[hna] at hfew
 have hal:L.az.length=na:=by rw[h.al,hna]
 have hao:=h.aq.1
 rw[hal] at hao
 obtain⟨AA,cA,rfl,_⟩:=own_rd hao
 have HAQ:=As.mk hao
 obtain⟨W,hW⟩:∃W,W=w.alloc (msgObj frm (cf.id:Int) A n c):=⟨_,rfl⟩
 have kW:Kp [] w W:=by rw[hW];exact(Kp.refl [] w).alloc _
 have hb:W.heap[w.heap.size]?=some (msgObj frm (cf.id:Int) A n c):=by rw[hW];exact heap_alloc_new w _
 have m0:W.cell? ⟨w.heap.size,0,none⟩=some (.int .i64 frm):=bkc hb 0 rfl
 have m1:W.cell? ⟨w.heap.size,1,none⟩=some (.int .i64 (cf.id:Int)):=bkc hb 1 rfl
 have m2:W.cell? ⟨w.heap.size,2,none⟩=some (.slice A n c):=bkc hb 2 rfl
 have HMB:=As.mk hb
 have b0:=kW.cell (bkc hd 0 rfl) (by simp)
 have b5:=kW.cell (bkc hd 5 rfl) (by simp)
 have HK:=As.mk kW
 have e1:((cf.id:Int) !=(cf.id:Int))=false:=by simp
 have e2:decide (frm<0)=false:=decide_eq_false (by omega)
 have e3:decide (7<=frm)=false:=decide_eq_false (by omega)
 have e4:((m:Int)+1==0)=false:=by simp;omega
 obtain⟨ctx,hctx⟩:∃x,(dWRep data).1.ctx=x:=⟨_,rfl⟩
 obtain⟨er,her⟩:∃x,(dWRep data).1.err=x:=⟨_,rfl⟩
 obtain⟨hint,hhint⟩:∃x,(dWRep data).1.hint=x:=⟨_,rfl⟩
 obtain⟨dat,hdat⟩:∃x,(dWRep data).1.data=x:=⟨_,rfl⟩
 obtain⟨z,hz⟩:∃x,(dWRep data).2=x:=⟨_,rfl⟩
 have HDR:As (∀wX,Kp [] W wX->Calls Tryz.prog 44 #[.slice A n c] wX fun e w'=>∃AD nD cD,e= .returned (.tuple #[.agg #[.int .i64 ctx,.int .i64 er,.int .i64 hint,.slice AD nD cD],.int .i64 z])/\As (Own 5 .u8 w' wX.heap.size (.slice AD nD cD) dat/\Kp [] wX w')):=⟨fun wX kX=>by
  refine(decodeReply_any A n c data wX hn ((kW.trans kX (by simp)).rd_new hr (by simp)) hc hw (by omega)).mono ?_
  rintro e w' ⟨AD,nD,cD,rfl,o,k⟩
  rw[hctx,her,hhint,hz]
  rw[hdat] at o
  exact⟨AD,nD,cD,rfl,⟨o,k⟩⟩⟩
 have HL:As (∀w2,Kp [] w w2->w2.cell? ⟨L.b,5,none⟩=some (.slice (some ⟨qb,qo,none⟩) (m+1) qc)/\w2.cell? ⟨qb,qo,none⟩=some (.pointer (some ⟨p0,0,none⟩))/\w2.cell? ⟨p0,13,none⟩=some (.slice AA na cA)/\(L.b<w2.heap.size/\¬L.b=w2.heap.size)/\(qb<w2.heap.size/\¬qb=w2.heap.size)/\p0<w2.heap.size/\¬p0=w2.heap.size):=⟨fun w2 k=>by
  have a1:=k.cell (bkc hd 5 rfl) (by simp)
  have a2:=k.cell q0 (by simp)
  have a3:=k.cell (bkc hp 13 rfl) (by simp)
  have s1:=World.block_lt_of_cell? w2 _ a1
  have s2:=World.block_lt_of_cell? w2 _ a2
  have s3:=World.block_lt_of_cell? w2 _ a3
  simp only at s1 s2 s3
  exact⟨a1,a2,a3,⟨s1,by omega⟩,⟨s2,by omega⟩,s3,by omega⟩⟩
 have HIX:As (∀r,IdxR (askPr s.asks ctx) na r->∀w2 AD nD cD,Kp [] w w2->Calls Tryz.prog 45 #[.slice AA na cA,.func (.func 46) #[] #[.pointer (some ⟨w2.heap.size,0,none⟩)]] (w2.alloc (.cells #[.int .i64 ctx,.int .i64 er,.int .i64 hint,.slice AD nD cD] 112)) fun e w'=>e= .returned (.int .i64 r)/\As (∃q,w'=(w2.alloc (.cells #[.int .i64 ctx,.int .i64 er,.int .i64 hint,.slice AD nD cD] 112)).drewN q)):=⟨fun r hr w2 AD nD cD k=>by
  refine(asks_index HP.out hal hna hfew k ctx er hint AD nD cD r hr).mono ?_
  rintro e w' ⟨rfl,q,hq⟩
  exact⟨rfl,⟨q,hq⟩⟩⟩
 have hna0:0<na:=by
  have:=(List.getElem?_eq_some_iff.1 ha).1
  omega
 obtain⟨ga,cA2,e9,_⟩:=own_form hao hna0
 cases e9
 have hi9:i<na:=by rw[<-hna];exact(List.getElem?_eq_some_iff.1 ha).1
 obtain⟨p,hpz⟩:∃p,L.az[i]?=some p:=⟨_,List.getElem?_eq_getElem (by rw[hal];exact hi9)⟩
 have hgp:w.cell? ⟨ga,i,none⟩=some (.pointer (some ⟨p,0,none⟩)):=by
  rw[hao.cellAt i (by omega)]
  simp[hpz,ptr]
 have hix:IdxR (askPr s.asks ctx) na i:=by
  rw[hctx] at hi
  obtain⟨_,_,_,_,h9⟩:=askIx_some hi
  rwa[hna] at h9
 have HIX2:=As.mk (HIX.out (i:Int) hix)
 have HGP:=As.mk (And.intro hpz hgp)
 have HI9:=As.mk ha
 rw[hz] at hz0
 subst hz0
 clear hix HIX hi
 rw[her] at he⊢
 obtain⟨a0,a11,a12,a14,a9,a7⟩:=he
 have HEN:As (∀w4,Kp [] w w4->Calls Tryz.prog 32 #[.pointer (some ⟨L.b,0,none⟩),.int .i64 er] w4 fun en w'=>en= .returned (.tuple #[])/\As (EndsI U L cf (endErr s er) ps w w')):=⟨fun w4 k=>by
  refine(ends_plain HP.out hj hjs k hd9 er a0).mono ?_
  rintro e w' ⟨rfl,q⟩
  exact⟨rfl,⟨q⟩⟩⟩
 have f0:(er==0)=false:=by simpa using a0
 have f11:(er==11)=false:=by simpa using a11
 have f12:(er==12)=false:=by simpa using a12
 have f14:(er==14)=false:=by simpa using a14
 have f9:(er==9)=false:=by simpa using a9
 have f7:(er==7)=false:=by simpa using a7
 have i0:decide ((i:Int)<0)=false:=decide_eq_false (by omega)
 have i1:(0:Int)<=(i:Int):=by omega
 have i2:(i:Int)<(na:Int):=by omega
 clear h hd hal hao hb hn hr hc hw hm hctx her hhint hdat hjl hm1 kW q0 hj hjs hna HAQ ha a0 a11 a12 a14 a9 a7 hpz hgp
 unfold msgObj at hW
 go_enter Tryz.func17,Tryz.ntmps17
 go_upto_region 1 with fail
 rw[<-hW]
 clear hW
 go_quiet (fail)
 go_wp2_with (first
  |(go_at_call 44;refine(HDR.out _ ((Kp.refl [] W).drewN _)).mono ?_;rintro e w2 ⟨AD,nD,cD,rfl,HD⟩;have HK2:As (Kp [] w w2):=⟨(HK.out.drewN _).trans HD.out.2 (by simp)⟩;obtain⟨z1,z2,z3,⟨z4,z5⟩,⟨z6,z7⟩,z8,z9⟩:=HL.out w2 HK2.out;have HI2:=As.mk (HIX2.out w2 AD nD cD HK2.out);clear HDR HL HIX2)
  |(go_at_call 45;refine HI2.out.mono ?_;rintro e w4 ⟨rfl,HQ⟩;have HH4:=As.mk (HearA.mk2 HK2.out (((Kp.refl [] W).drewN _).trans HD.out.2 (by simp)) HD.out.1 HQ.out (HK.out.size));have y13:=HH4.out.kp.cell (bkc hp 13 rfl) (by simp);have yga:=HH4.out.kp.cell HGP.out.2 (by simp);have r1:=bkc HH4.out.blk 1 rfl;have r2:=bkc HH4.out.blk 2 rfl;have r3:=bkc HH4.out.blk 3 rfl;have HE4:=As.mk (HEN.out w4 HH4.out.kp);clear HEN;clear HI2)
  |(go_at_call 32;refine HE4.out.mono ?_;rintro e w5 ⟨rfl,HE5⟩;clear HE4))
 go_ret
 exact TickPost.ends HE5.out rfl
end Go.Proofs.YtdiljpdohmeceaaGreat.co
