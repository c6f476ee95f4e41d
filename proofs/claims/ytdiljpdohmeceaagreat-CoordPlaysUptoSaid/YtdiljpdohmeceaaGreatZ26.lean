/- Words and walks that this claim rests on: proved lemmas alone. -/
import Derived.Test.YtdiljpdohmeceaaGreatZ25
import Derived.Sort.Walk0
set_option maxHeartbeats 16000000
set_option maxRecDepth 100000
namespace Go.Proofs.YtdiljpdohmeceaaGreat.co
open Go.RowKit H O opk frame wir
theorem hear_done(U:List Nat)(w:World)(L:Lay)(cf:Cfg)(s:Cs)(j:Job)(jr:List Job)(frm:Int)(A:Option Addr)(n c:Nat)(data:List Int)(hC:CoSt U w L cf s)(hj:s.jobs=j::jr)(hf0:0<=frm)(hf7:frm<7)(hfew:s.asks.length<=8)(hn:data.length=n)(hr:Rd w A (iv .u8 data))(hc:n<=c)(hw:Wf data)(hm:n<=50000)(i:Nat)(a:Ask)(hi:askIx s.asks (dWRep data).1.ctx=some i)(ha:s.asks[i]?=some a)(hz0:(dWRep data).2=0)(ok:CsOk cf s)(hd9:s.done.length<=1000000)(hml:(s.asks.flatMap (·.ms)).length<=1000000)(he:(dWRep data).1.err=0)(hms0:a.ms=[])(hte:(took j (dWRep data).1.data).err=0)(hwt:waits (s.asks.set i {a with answered:=true})=false):
 Calls Tryz.prog 17 #[.pointer (some ⟨L.b,0,none⟩),.agg #[.int .i64 frm,.int .i64 (cf.id:Int),.slice A n c]] w (TickPost U L cf (endJob s ⟨s.ended,0,(took j (dWRep data).1.data).was,(took j (dWRep data).1.data).has,(took j (dWRep data).1.data).text,sortM ((s.asks.set i {a with answered:=true,ms:=(took j (dWRep data).1.data).ms}).flatMap (·.ms))⟩,[]) w):=by
 have HCS:=As.mk hC
 obtain⟨κ,VS,VW,VJ,VD,MV,AV,l,h⟩:=hC
 have HP:=As.mk h
 have hjl:=h.jl
 rw[hj] at hjl
 obtain⟨p0,ps,hjs⟩:∃p ps,L.js=p::ps:=by
  cases e:L.js with
  |nil=>rw[e] at hjl;simp at hjl
  |cons p ps=>exact⟨p,ps,rfl⟩
 obtain⟨qb,qo,qc,rfl,q0⟩:=h.jq.cell (i:=0) (p:=p0) (by rw[hjs];rfl)
 obtain⟨m,hm1⟩:∃m,L.js.length=m+1:=⟨ps.length,by rw[hjs];rfl⟩
 have hd:=h.hd
 rw[hm1] at hd
 rw[Nat.add_zero] at q0
 unfold ptr at q0
 obtain⟨tv,dv,hp,_,_⟩:=h.ja 0 j p0 (by rw[hj];rfl) (by rw[hjs];rfl)
 rw[if_pos rfl,if_pos rfl] at hp
 obtain⟨na,hna⟩:∃na,s.asks.length=na:=⟨_,rfl⟩
 rw[hna] at hfew
 have hal:L.az.length=na:=by rw[h.al,hna]
 have hao:=h.aq.1
 rw[hal] at hao
 obtain⟨AA,cA,rfl,_⟩:=own_rd hao
 have HAQ:=As.mk hao
 obtain⟨W,hW⟩:∃W,W=w.alloc (msgObj frm (cf.id:Int) A n c):=⟨_,rfl⟩
 have kW:Kp [] w W:=by rw[hW];exact(Kp.refl [] w).alloc _
 have hb:W.heap[w.heap.size]?=some (msgObj frm (cf.id:Int) A n c):=by rw[hW];exact heap_alloc_new w _
 have m0:W.cell? ⟨w.heap.size,0,none⟩=some (.int .i64 frm):=bkc hb 0 rfl
 have m1:W.cell? ⟨w.heap.size,1,none⟩=some (.int .i64 (cf.id:Int)):=bkc hb 1 rfl
 have m2:W.cell? ⟨w.heap.size,2,none⟩=some (.slice A n c):=bkc hb 2 rfl
 have HMB:=As.mk hb
 have b0:=kW.cell (bkc hd 0 rfl) (by simp)
 have b5:=kW.cell (bkc hd 5 rfl) (by simp)
 have HK:=As.mk kW
 have e1:((cf.id:Int) !=(cf.id:Int))=false:=by simp
 have e2:decide (frm<0)=false:=decide_eq_false (by omega)
 have e3:decide (7<=frm)=false:=decide_eq_false (by omega)
 have e4:((m:Int)+1==0)=false:=by simp;omega
 obtain⟨ctx,hctx⟩:∃x,(dWRep data).1.ctx=x:=⟨_,rfl⟩
 obtain⟨er,her⟩:∃x,(dWRep data).1.err=x:=⟨_,rfl⟩
 obtain⟨hint,hhint⟩:∃x,(dWRep data).1.hint=x:=⟨_,rfl⟩
 obtain⟨dat,hdat⟩:∃x,(dWRep data).1.data=x:=⟨_,rfl⟩
 obtain⟨z,hz⟩:∃x,(dWRep data).2=x:=⟨_,rfl⟩
 have HDR:As (∀wX,Kp [] W wX->Calls Tryz.prog 44 #[.slice A n c] wX fun e w'=>∃AD nD cD,e= .returned (.tuple #[.agg #[.int .i64 ctx,.int .i64 er,.int .i64 hint,.slice AD nD cD],.int .i64 z])/\As (Own 5 .u8 w' wX.heap.size (.slice AD nD cD) dat/\Kp [] wX w')):=⟨fun wX kX=>by
  refine(decodeReply_any A n c data wX hn ((kW.trans kX (by simp)).rd_new hr (by simp)) hc hw (by omega)).mono ?_
  rintro e w' ⟨AD,nD,cD,rfl,o,k⟩
  rw[hctx,her,hhint,hz]
  rw[hdat] at o
  exact⟨AD,nD,cD,rfl,⟨o,k⟩⟩⟩
 have HL:As (∀w2,Kp [] w w2->w2.cell? ⟨L.b,5,none⟩=some (.slice (some ⟨qb,qo,none⟩) (m+1) qc)/\w2.cell? ⟨qb,qo,none⟩=some (.pointer (some ⟨p0,0,none⟩))/\w2.cell? ⟨p0,13,none⟩=some (.slice AA na cA)/\(L.b<w2.heap.size/\¬L.b=w2.heap.size)/\(qb<w2.heap.size/\¬qb=w2.heap.size)/\p0<w2.heap.size/\¬p0=w2.heap.size):=⟨fun w2 k=>by
  have a1:=k.cell (bkc hd 5 rfl) (by simp)
  have a2:=k.cell q0 (by simp)
  have a3:=k.cell (bkc hp 13 rfl) (by simp)
  have s1:=World.block_lt_of_cell? w2 _ a1
  have s2:=World.block_lt_of_cell? w2 _ a2
  have s3:=World.block_lt_of_cell? w2 _ a3
  simp only at s1 s2 s3
  exact⟨a1,a2,a3,⟨s1,by omega⟩,⟨s2,by omega⟩,s3,by omega⟩⟩
 have HIX:As (∀r,IdxR (askPr s.asks ctx) na r->∀w2 AD nD cD,Kp [] w w2->Calls Tryz.prog 45 #[.slice AA na cA,.func (.func 46) #[] #[.pointer (some ⟨w2.heap.size,0,none⟩)]] (w2.alloc (.cells #[.int .i64 ctx,.int .i64 er,.int .i64 hint,.slice AD nD cD] 112)) fun e w'=>e= .returned (.int .i64 r)/\As (∃q,w'=(w2.alloc (.cells #[.int .i64 ctx,.int .i64 er,.int .i64 hint,.slice AD nD cD] 112)).drewN q)):=⟨fun r hr w2 AD nD cD k=>by
  refine(asks_index HP.out hal hna hfew k ctx er hint AD nD cD r hr).mono ?_
  rintro e w' ⟨rfl,q,hq⟩
  exact⟨rfl,⟨q,hq⟩⟩⟩
 have hna0:0<na:=by
  have:=(List.getElem?_eq_some_iff.1 ha).1
  omega
 obtain⟨ga,cA2,e9,_⟩:=own_form hao hna0
 cases e9
 have hi9:i<na:=by rw[<-hna];exact(List.getElem?_eq_some_iff.1 ha).1
 obtain⟨p,hpz⟩:∃p,L.az[i]?=some p:=⟨_,List.getElem?_eq_getElem (by rw[hal];exact hi9)⟩
 have hgp:w.cell? ⟨ga,i,none⟩=some (.pointer (some ⟨p,0,none⟩)):=by
  rw[hao.cellAt i (by omega)]
  simp[hpz,ptr]
 have hix:IdxR (askPr s.asks ctx) na i:=by
  rw[hctx] at hi
  obtain⟨_,_,_,_,h9⟩:=askIx_some hi
  rwa[hna] at h9
 have HIX2:=As.mk (HIX.out (i:Int) hix)
 have HGP:=As.mk (And.intro hpz hgp)
 have HI9:=As.mk ha
 rw[hz] at hz0
 subst hz0
 clear hix HIX hi
 rw[her] at he
 subst he
 obtain⟨kd,dva,fva,hba,_⟩:=h.aa i a p ha hpz
 have hpl:p<w.heap.size:=lt_of_block hba
 have hpm:p∈L.all:=Lay.mem.2 (by simp[List.mem_of_getElem? hpz])
 have hpp:p0≠p:=by
  have e1:=h.sep.az p (List.mem_of_getElem? hpz)
  have e2:=h.sep.js p0 (by rw[hjs];simp)
  intro e
  rw[<-e] at e1
  omega
 have hgm:L.gm=MV.ownBlock:=h.mq.2.1.symm
 have hl6:l.length<=1000000:=by rw[h.mq.2.2.length_eq];exact hml
 have hjk:=ok.jobs j (by rw[hj];simp)
 have hdd:=dWRep_dat data
 rw[hdat] at hdd
 obtain⟨t,ht⟩:∃t,took j dat=t:=⟨_,rfl⟩
 rw[Nat.add_zero] at hp
 have HP5:As (∀w4,Kp [] w w4->(∃κ',CoP U (w4.setCell ⟨p,8,none⟩ (.bool true)) L cf {s with asks:=s.asks.set i {a with answered:=true}} κ' VS VW (.slice (some ⟨qb,qo,none⟩) L.js.length qc) VD MV (.slice (some ⟨ga,0,none⟩) na cA) l)/\Kp L.all w (w4.setCell ⟨p,8,none⟩ (.bool true))/\(w4.setCell ⟨p,8,none⟩ (.bool true)).heap[p0]?=some (jobRun s.ended false false (.slice none 0 0) MV (wkind j) (okind j) cf.id (okey j) tv dv (.slice (some ⟨ga,0,none⟩) na cA))):=⟨fun w4 k=>by
  have h4:=h.kp (U2:=U) k (by simp) (fun x hx=> .inl hx)
  have hA:=(h4.aa i a p ha hpz).set8 (List.mem_append.2 (.inl hpm)) true
  have k5:Kp [p] w4 (w4.setCell ⟨p,8,none⟩ (.bool true)):=(Kp.refl _ _).setCell (.inl (by simp)) _
  have h5:=h4.ask hpz ha k5 hA rfl
  refine⟨⟨_,h5⟩,(k.mono (by simp)).trans k5 (fun x hx=> .inl (by simp at hx;rw[hx];exact hpm)),k5.blk (k.blk hp (by simp)) (by simpa using hpp)⟩⟩
 have HTK:As (∀w4 rb AD nD cD,HearA w W w4 rb ctx 0 hint AD nD cD dat->Calls Tryz.prog 49 #[.pointer (some ⟨p0,0,none⟩),.slice AD nD cD] (w4.setCell ⟨p,8,none⟩ (.bool true)) fun e w6=>∃AM nM cM,e= .returned (.int .i64 t.err)/\w6.cell? ⟨p0,13,none⟩=some (.slice (some ⟨ga,0,none⟩) na cA)/\w6.cell? ⟨p0,5,none⟩=some (.slice AM nM cM)/\As (TkB p0 s.ended MV l (wkind j) (okind j) cf.id (okey j) tv dv (.slice (some ⟨ga,0,none⟩) na cA) t (w4.setCell ⟨p,8,none⟩ (.bool true)) w6 (.slice AM nM cM))):=⟨fun w4 rb AD nD cD X=>by
  obtain⟨⟨κ',h5⟩,k5,hb5⟩:=HP5.out w4 X.kp
  have hln:=X.own.len
  have o5:Own 5 .u8 (w4.setCell ⟨p,8,none⟩ (.bool true)) w.heap.size (.slice AD nD cD) dat:=X.own.kp (S:=[p]) ((Kp.refl _ _).setCell (.inl (by simp)) _) (fun g hg=>by have:=X.own.2 g hg;simp;omega)
  have hr9:Rd (w4.setCell ⟨p,8,none⟩ (.bool true)) AD (iv .u8 dat):=(Own.rds (S:=[]) o5 (by simp)).rd
  have hn9:AD=none->cD=0:=by
   obtain⟨_,_,e9,_,_,_,hn9⟩:=own_rd o5.1
   cases e9
   exact hn9
  refine(takes_any j hjk p0 s.ended MV l cf.id (okey j) tv dv (.slice (some ⟨ga,0,none⟩) na cA) AD nD cD dat (w4.setCell ⟨p,8,none⟩ (.bool true)) hb5 h5.mq.1 (fun g hg e=> ?_) hl6 hln hr9 hn9 (hdd.2 hw) (by omega)).mono ?_
  ·have e1:=h.sep.gm g (by rw[hgm];exact hg)
   have e2:=h.sep.js p0 (by rw[hjs];simp)
   rw[e] at e1
   omega
  ·rw[ht]
   rintro e w6 T
   obtain⟨AM,nM,cM,rfl,c1,c2,T2⟩:=T.b
   exact⟨AM,nM,cM,rfl,c1,c2,⟨T2⟩⟩⟩
 have HX8:As (∀w4,Kp [] w w4->w4.cell? ⟨p,8,none⟩=some (.bool a.answered)/\w4.frozen? ⟨p,8,none⟩=false):=⟨fun w4 k=>by
  have hb4:=k.blk hba (by simp)
  exact⟨bkc hb4 8 rfl,blk_free hb4 8⟩⟩
 rw[hdat,ht] at hte
 have HCT:As (∀w4 w6 mv',Kp [] w w4->TkB p0 s.ended MV l (wkind j) (okind j) cf.id (okey j) tv dv (.slice (some ⟨ga,0,none⟩) na cA) t (w4.setCell ⟨p,8,none⟩ (.bool true)) w6 mv'->Calls Tryz.prog 50 #[.slice (some ⟨ga,0,none⟩) na cA,.func (.func 51) #[] #[]] w6 fun e w'=>e= .returned (.bool false)/\As (∃q,w'=w6.drewN q)):=⟨fun w4 w6 mv' k T=>by
  obtain⟨⟨κ',h5⟩,k5,hb5⟩:=HP5.out w4 k
  refine(asks_wait h5 (by show(s.asks.set i _).length=na;rw[List.length_set];exact hna) hfew hjs T false hwt).mono ?_
  rintro e w' ⟨rfl,q⟩
  exact⟨rfl,⟨q⟩⟩⟩
 rw[hte] at HTK
 have htl:t.ms.length<=50000:=by rw[<-ht];have:=took_err0 (j:=j) (data:=dat);omega
 have HSO:As (∀w4 w6 w7 AM nM cM,Kp [] w w4->TkB p0 s.ended MV l (wkind j) (okind j) cf.id (okey j) tv dv (.slice (some ⟨ga,0,none⟩) na cA) t (w4.setCell ⟨p,8,none⟩ (.bool true)) w6 (.slice AM nM cM)->(∃q,w7=w6.drewN q)->Calls Tryz.prog 52 #[.slice AM nM cM,.func (.func 53) #[] #[]] w7 fun e w8=>e= .returned (.tuple #[])/\As (w8.ownsRow 0 73 2 (.slice AM nM cM) (sortM (l++t.ms)).length (mv (sortM (l++t.ms)))/\Kp (Value.slice AM nM cM).ownBlock.toList w6 w8)):=⟨fun w4 w6 w7 AM nM cM k T hq=>by
  obtain⟨q,rfl⟩:=hq
  obtain⟨was,has,tv2,text,ms,q1,q2,q3,q4,q5,q6,q7⟩:=T
  obtain⟨_,_,_,rfl⟩:=q6 hte
  refine(so.sort_any (.slice AM nM cM) (l++t.ms) (w6.drewN q) (((Kp.refl [] w6).drewN q).own q3 (by simp)) (by rw[List.length_append];omega)).mono ?_
  rintro e w8 ⟨rfl,o8,k8⟩
  refine⟨rfl,⟨?_,(((Kp.refl [] w6).drewN q).mono (by simp)).trans k8 (fun x hx=> .inl hx)⟩⟩
  have hl8:(sortM (l++t.ms)).length=(l++t.ms).length:=(List.mergeSort_perm _ _).length_eq
  rw[hl8]
  exact o8⟩
 have HEN:As (∀w4 w6 w8 AM nM cM,Kp [] w w4->TkB p0 s.ended MV l (wkind j) (okind j) cf.id (okey j) tv dv (.slice (some ⟨ga,0,none⟩) na cA) t (w4.setCell ⟨p,8,none⟩ (.bool true)) w6 (.slice AM nM cM)->w8.ownsRow 0 73 2 (.slice AM nM cM) (sortM (l++t.ms)).length (mv (sortM (l++t.ms)))/\Kp (Value.slice AM nM cM).ownBlock.toList w6 w8->Calls Tryz.prog 32 #[.pointer (some ⟨L.b,0,none⟩),.int .i64 0] w8 fun en w'=>en= .returned (.tuple #[])/\As (EndsI U L cf (endJob s ⟨s.ended,0,t.was,t.has,t.text,sortM ((s.asks.set i {a with answered:=true,ms:=t.ms}).flatMap (·.ms))⟩) ps w w')):=⟨fun w4 w6 w8 AM nM cM k T o8=>by
  obtain⟨⟨κ',h5⟩,k5,hb5⟩:=HP5.out w4 k
  refine(ends_took h5 (j:=j) (jr:=jr) hj hjs T o8.2 o8.1 hd9 0 (fun _=>hte)).mono ?_
  rintro en w' ⟨rfl,q⟩
  rw[if_pos rfl] at q
  have hset:(s.asks.set i {a with answered:=true}).set i {a with answered:=true,ms:=t.ms}=s.asks.set i {a with answered:=true,ms:=t.ms}:=List.set_set ..
  have hp5:=flat_set (s.asks.set i {a with answered:=true}) i {a with answered:=true} t.ms (by simp[(List.getElem?_eq_some_iff.1 ha).1]) hms0
  have hp6:(l++t.ms).Perm ((s.asks.set i {a with answered:=true,ms:=t.ms}).flatMap (·.ms)):=by
   rw[<-hset]
   exact(h5.mq.2.2.append_right t.ms).trans hp5.symm
  rw[sortM_perm hp6] at q
  exact⟨rfl,⟨q.back k5⟩⟩⟩
 rw[hdat,ht]
 have i0:decide ((i:Int)<0)=false:=decide_eq_false (by omega)
 have i1:(0:Int)<=(i:Int):=by omega
 have i2:(i:Int)<(na:Int):=by omega
 clear h hd hal hao hb hn hr hc hw hm hctx her hhint hdat hjl hm1 kW q0 hna HAQ ha hpz hgp hba hpm hgm hl6 hjk hdd ht hml
 clear hj hjs hte hwt hd9 ok hms0 htl
 unfold msgObj at hW
 go_enter Tryz.func17,Tryz.ntmps17
 go_upto_region 1 with fail
 rw[<-hW]
 clear hW
 go_quiet (fail)
 go_wp2_with (first
  |(go_at_call 44;refine(HDR.out _ ((Kp.refl [] W).drewN _)).mono ?_;rintro e w2 ⟨AD,nD,cD,rfl,HD⟩;have HK2:As (Kp [] w w2):=⟨(HK.out.drewN _).trans HD.out.2 (by simp)⟩;obtain⟨z1,z2,z3,⟨z4,z5⟩,⟨z6,z7⟩,z8,z9⟩:=HL.out w2 HK2.out;have HI2:=As.mk (HIX2.out w2 AD nD cD HK2.out);have np1:¬p=w2.heap.size:=(by have:=HK2.out.size;omega);have np2:¬w2.heap.size=p:=(by have:=HK2.out.size;omega);clear HDR HL HIX2)
  |(go_at_call 45;refine HI2.out.mono ?_;rintro e w4 ⟨rfl,HQ⟩;have HH4:=As.mk (HearA.mk2 HK2.out (((Kp.refl [] W).drewN _).trans HD.out.2 (by simp)) HD.out.1 HQ.out (HK.out.size));have y13:=HH4.out.kp.cell (bkc hp 13 rfl) (by simp);have yga:=HH4.out.kp.cell HGP.out.2 (by simp);have r1:=bkc HH4.out.blk 1 rfl;have r2:=bkc HH4.out.blk 2 rfl;have r3:=bkc HH4.out.blk 3 rfl;obtain⟨x8,f8⟩:=HX8.out w4 HH4.out.kp;have HT4:=As.mk (HTK.out w4 _ _ _ _ HH4.out);clear HTK;clear HI2)
  |(go_at_call 49;refine HT4.out.mono ?_;rintro e w6 ⟨AM,nM,cM,rfl,u13,u5,HTB⟩;have HC6:=As.mk (HCT.out w4 w6 _ HH4.out.kp HTB.out);clear HCT;clear HT4)
  |(go_at_call 50;refine HC6.out.mono ?_;rintro e w7 ⟨rfl,HQ7⟩;have v5:w7.cell? ⟨p0,5,none⟩=some (.slice AM nM cM):=(HQ7.out.elim (fun q e=>by rw[e];exact u5));have HS7:=As.mk (HSO.out w4 w6 w7 _ _ _ HH4.out.kp HTB.out HQ7.out);clear HSO;clear HC6)
  |(go_at_call 52;refine HS7.out.mono ?_;rintro e w8 ⟨rfl,HO8⟩;have HE8:=As.mk (HEN.out w4 w6 w8 _ _ _ HH4.out.kp HTB.out HO8.out);clear HS7 HEN)
  |(go_at_call 32;refine HE8.out.mono ?_;rintro e w9 ⟨rfl,HE9⟩;clear HE8))
 go_ret
 exact TickPost.ends HE9.out rfl
theorem tick_all(U:List Nat)(w:World)(L:Lay)(cf:Cfg)(s:Cs)(hC:CoSt U w L cf s)(ok:CsOk cf s)(wt:Wt cf s.asks)(hc:s.ctx+8<=1099511627776)(he:s.ended+1<=1099511627776)(hd:s.done.length<=1000000):
 Calls Tryz.prog 11 #[.pointer (some ⟨L.b,0,none⟩)] w (TickPost U L cf (tick cf s) w):=by
 cases hj:s.jobs with
 |nil=>exact tick_no U w L cf s hC hj
 |cons j r=>
  by_cases ha:s.asks=[]
  ·exact tick_begin U w L cf s j r hC ok hj ha hc he
  ·exact tick_run U w L cf s j r hC ok wt hj ha hd
theorem tkGo_ok{cf:Cfg}{s:Cs}:∀(f k:Nat) (wh:List Nat) (az:List Ask) (out:List Msg),CsOk cf {s with whom:=wh,asks:=az}->Wt cf az->s.jobs≠[]->
 CsOk cf {s with whom:=(tkGo cf f k wh az out).1,asks:=(tkGo cf f k wh az out).2.1}/\((tkGo cf f k wh az out).2.2.2=false->Wt cf (tkGo cf f k wh az out).2.1)
 |0,k,wh,az,out,ok,wt,_=>⟨ok,fun _=>wt⟩
 |f+1,k,wh,az,out,ok,wt,hn=>by
  cases haz:az[k]? with
  |none=>
   have e:tkGo cf (f+1) k wh az out=(wh,az,out,false):=by simp only[tkGo,haz]
   rw[e]
   exact⟨ok,fun _=>wt⟩
  |some a=>
   have hm:a∈az:=List.mem_of_getElem? haz
   have hok:AskOk cf s.ctx a:=ok.asks a hm
   have hp:=ok.cfg.pat
   have hw:=wt a hm
   rw[tkGo_step cf f k wh az out a haz]
   by_cases h1:a.answered=true
   ·rw[if_pos h1]
    exact tkGo_ok f (k+1) wh az out ok wt hn
   ·rw[if_neg h1]
    have hA:AskOk cf s.ctx {a with waited:=a.waited+1}:=⟨hok.shard,hok.ctx,hok.frame,hok.tried,by show a.waited+1<=1001;omega⟩
    by_cases h2:a.waited+1<cf.pat
    ·rw[if_pos h2]
     exact tkGo_ok f (k+1) wh _ out (ok.ask k hA) (wt.set k h2) hn
    ·rw[if_neg h2]
     by_cases h3:cf.tries<=a.tried
     ·rw[if_pos h3]
      exact⟨ok.ask k hA,fun e=>by simp at e⟩
     ·rw[if_neg h3]
      have hB:AskOk cf s.ctx {a with waited:=0,tried:=a.tried+1,hinted:=false}:=⟨hok.shard,hok.ctx,hok.frame,by show a.tried+1<=cf.tries;omega,by show 0<=1001;omega⟩
      have h4:=ok.ask k hB
      exact tkGo_ok f (k+1) _ _ _ (h4.next hok.shard) (wt.set k (by show 0<cf.pat;omega)) hn
theorem endErr_ok{cf:Cfg}{s:Cs}(h:CsOk cf s)(r:Res):CsOk cf (endJob s r):=⟨h.cfg,h.wlen,h.whom,fun j hj=>h.jobs j (List.mem_of_mem_tail hj),fun a ha=>by simp[endJob] at ha,fun _=>rfl,by simp[endJob]⟩
theorem tick_inv{cf:Cfg}{s:Cs}(ok:CsOk cf s)(wt:Wt cf s.asks):CsOk cf (tick cf s).1/\Wt cf (tick cf s).1.asks:=by
 cases hj:s.jobs with
 |nil=>rw[tick_none hj];exact⟨ok,wt⟩
 |cons j r=>
  have hjk:JobOk j:=ok.jobs j (by rw[hj];simp)
  have hn:s.jobs≠[]:=by rw[hj];simp
  have hl:=ok.cfg.len
  by_cases ha:s.asks=[]
  ·rw[tick_new hj ha]
   refine⟨ok.asksTo (mkAsks_ok hjk (by omega) ok.cfg.tries.1) ?_ hn,fun a h=> ?_⟩
   ·rw[mkAsks_len]
    have:=(jshards_len (j:=j) hl.1).2
    omega
   ·have hp:=ok.cfg.pat
    obtain⟨i,hi⟩:=List.getElem?_of_mem h
    have hlt:i<(jshards cf j).length:=by
     obtain⟨h9,_⟩:=List.getElem?_eq_some_iff.1 hi
     rw[mkAsks_len] at h9
     exact h9
    rw[mkAsks_get _ _ _ _ _ _ _ hlt] at hi
    cases hi
    show 0<cf.pat
    omega
  ·have hg:=tkGo_ok (s:=s) s.asks.length 0 s.whom s.asks [] ok wt hn
   obtain⟨⟨wh,az,out,b⟩,hgo⟩:∃x,tkGo cf s.asks.length 0 s.whom s.asks []=x:=⟨_,rfl⟩
   rw[hgo] at hg
   cases b with
   |true=>rw[tick_end hj ha hgo];exact⟨endErr_ok hg.1 _,fun a h=>by simp[endErr,endJob] at h⟩
   |false=>rw[tick_go hj ha hgo];exact⟨hg.1,hg.2 rfl⟩
structure HOk(s:Cs):Prop where
 ms0:∀a∈s.asks,a.answered=false->a.ms=[]
 one:∀j r,s.jobs=j::r->j.kind≠4->s.asks.length<=1
 big:∀a∈s.asks,a.ms.length<=50000
theorem sum_le:∀(l:List Ask),(∀a∈l,a.ms.length<=50000)->(l.flatMap (·.ms)).length<=50000*l.length
 |[],_=>by simp
 |a::l,h=>by
  have h1:=h a (by simp)
  have h2:=sum_le l (fun x hx=>h x (by simp[hx]))
  simp only[List.flatMap_cons,List.length_append,List.length_cons]
  omega
theorem HOk.sum{cf:Cfg}{s:Cs}(h:HOk s)(ok:CsOk cf s):(s.asks.flatMap (·.ms)).length<=1000000:=by
 have:=sum_le s.asks h.big
 have:=ok.few
 omega
theorem waits_set(az:List Ask)(i:Nat)(a:Ask)(m:List (ByteArray×Int)):(az.set i {a with answered:=true,ms:=m}).all (·.answered)= !waits (az.set i {a with answered:=true}):=by
 unfold waits
 rw[List.not_any_eq_all_not]
 simp only[Bool.not_not]
 induction az generalizing i with
 |nil=>rfl
 |cons x l ih=>
  cases i with
  |zero=>rfl
  |succ i=>
   simp only[List.set_cons_succ,List.all_cons]
   rw[ih]
theorem hear_cons{cf:Cfg}{s:Cs}{m:Msg}(hd:¬(m.dst≠(cf.id:Int)\/m.frm<0\/7<=m.frm)){j:Job}{jr:List Job}(hj:s.jobs=j::jr)(hz:(dWRep m.data).2=0){i:Nat}(hi:askIx s.asks (dWRep m.data).1.ctx=some i){a:Ask}(ha:s.asks[i]?=some a):hear cf s m=
        (if(dWRep m.data).1.err=0 then
         (if(took j (dWRep m.data).1.data).err≠0 then(endErr s (took j (dWRep m.data).1.data).err,[])
          else if(s.asks.set i {a with answered:=true,ms:=(took j (dWRep m.data).1.data).ms}).all (·.answered)=true then
           (endJob s ⟨s.ended,0,(took j (dWRep m.data).1.data).was,(took j (dWRep m.data).1.data).has,(took j (dWRep m.data).1.data).text,sortM ((s.asks.set i {a with answered:=true,ms:=(took j (dWRep m.data).1.data).ms}).flatMap (·.ms))⟩,[])
          else({s with asks:=s.asks.set i {a with answered:=true,ms:=(took j (dWRep m.data).1.data).ms}},[]))
        else if(dWRep m.data).1.err=11 then
         match nodeIx cf a.shard (dWRep m.data).1.hint with
         |none=>(s,[])
         |some at_=>
          if(dWRep m.data).1.hint=m.frm\/a.hinted=true then(s,[])
          else({s with whom:=s.whom.set a.shard at_,asks:=s.asks.set i {a with hinted:=true,waited:=0}},[msgOf cf (s.whom.set a.shard at_) a])
        else if(dWRep m.data).1.err=12\/(dWRep m.data).1.err=14\/(dWRep m.data).1.err=9\/(dWRep m.data).1.err=7 then(s,[])
        else(endErr s (dWRep m.data).1.err,[])):=by
 unfold hear
 rw[if_neg hd,hj]
 simp only
 rw[if_neg (by rw[hz];simp),hi]
 simp only
 rw[ha]
 rfl
theorem hear_any(U:List Nat)(w:World)(L:Lay)(cf:Cfg)(s:Cs)(m:Msg)(A:Option Addr)(n c:Nat)(hC:CoSt U w L cf s)(ok:CsOk cf s)(ho:HOk s)(hd9:s.done.length<=1000000)(hn:m.data.length=n)(hr:Rd w A (iv .u8 m.data))(hc:n<=c)(hw:Wf m.data)(hm:n<=50000):
 Calls Tryz.prog 17 #[.pointer (some ⟨L.b,0,none⟩),.agg #[.int .i64 m.frm,.int .i64 m.dst,.slice A n c]] w (TickPost U L cf (hear cf s m) w):=by
 by_cases hd:m.dst≠(cf.id:Int)\/m.frm<0\/7<=m.frm
 ·have e:hear cf s m=(s,[]):=by unfold hear;rw[if_pos hd]
  rw[e]
  exact hear_deaf U w L cf s m.frm m.dst A n c hC (by
   rcases hd with e|e|e
   ·exact .inl e
   ·exact .inr (.inl e)
   ·exact .inr (.inr (.inl e)))
 ·cases hj:s.jobs with
  |nil=>
   have e:hear cf s m=(s,[]):=by unfold hear;rw[if_neg hd,hj]
   rw[e]
   exact hear_deaf U w L cf s m.frm m.dst A n c hC (.inr (.inr (.inr hj)))
  |cons j jr=>
   have hdst:m.dst=(cf.id:Int):=by
    apply Classical.byContradiction
    intro h
    exact hd (.inl h)
   have hf0:0<=m.frm:=by
    apply Classical.byContradiction
    intro h
    exact hd (.inr (.inl (by omega)))
   have hf7:m.frm<7:=by
    apply Classical.byContradiction
    intro h
    exact hd (.inr (.inr (by omega)))
   rw[hdst]
   by_cases hz:(dWRep m.data).2=0
   ·cases hi:askIx s.asks (dWRep m.data).1.ctx with
    |none=>
     have e:hear cf s m=(s,[]):=by
      unfold hear
      rw[if_neg hd,hj]
      simp only
      rw[if_neg (by rw[hz];simp),hi]
     rw[e]
     exact hear_lost U w L cf s j jr m.frm A n c m.data hC hj hf0 hf7 ok.few hn hr hc hw hm (.inr hi)
    |some i=>
     obtain⟨a,ha,han,_,_⟩:=askIx_some hi
     have hms0:=ho.ms0 a (List.mem_of_getElem? ha) han
     rw[hear_cons hd hj hz hi ha]
     by_cases e0:(dWRep m.data).1.err=0
     ·rw[if_pos e0]
      by_cases ht:(took j (dWRep m.data).1.data).err=0
      ·rw[if_neg (by rw[ht];simp),waits_set]
       cases hwt:waits (s.asks.set i {a with answered:=true}) with
       |true=>
        rw[if_neg (by simp)]
        exact hear_wait U w L cf s j jr m.frm A n c m.data hC hj hf0 hf7 ok.few hn hr hc hw hm i a hi ha hz ok (ho.sum ok) e0 hms0 ht hwt (ho.one j jr hj)
       |false=>
        rw[if_pos (by simp)]
        exact hear_done U w L cf s j jr m.frm A n c m.data hC hj hf0 hf7 ok.few hn hr hc hw hm i a hi ha hz ok hd9 (ho.sum ok) e0 hms0 ht hwt
      ·rw[if_pos ht]
       exact hear_bad U w L cf s j jr m.frm A n c m.data hC hj hf0 hf7 ok.few hn hr hc hw hm i a hi ha hz ok hd9 (ho.sum ok) e0 ht
     ·rw[if_neg e0]
      by_cases e11:(dWRep m.data).1.err=11
      ·rw[if_pos e11]
       cases hx:nodeIx cf a.shard (dWRep m.data).1.hint with
       |none=>exact hear_stay U w L cf s j jr m.frm A n c m.data hC hj hf0 hf7 ok.few hn hr hc hw hm i a hi ha hz ok (.inr (.inr (.inr (.inr ⟨e11,.inl hx⟩))))
       |some at_=>
        simp only
        by_cases hh:(dWRep m.data).1.hint=m.frm\/a.hinted=true
        ·rw[if_pos hh]
         exact hear_stay U w L cf s j jr m.frm A n c m.data hC hj hf0 hf7 ok.few hn hr hc hw hm i a hi ha hz ok (.inr (.inr (.inr (.inr ⟨e11,.inr hh⟩))))
        ·rw[if_neg hh]
         exact hear_hint U w L cf s j jr m.frm A n c m.data hC hj hf0 hf7 ok.few hn hr hc hw hm i a hi ha hz ok at_ e11 hx (fun e=>hh (.inl e)) (by
          cases e:a.hinted with
          |false=>rfl
          |true=>exact absurd (.inr e) hh)
      ·rw[if_neg e11]
       by_cases es:(dWRep m.data).1.err=12\/(dWRep m.data).1.err=14\/(dWRep m.data).1.err=9\/(dWRep m.data).1.err=7
       ·rw[if_pos es]
        exact hear_stay U w L cf s j jr m.frm A n c m.data hC hj hf0 hf7 ok.few hn hr hc hw hm i a hi ha hz ok (by
         rcases es with e|e|e|e
         ·exact .inl e
         ·exact .inr (.inl e)
         ·exact .inr (.inr (.inl e))
         ·exact .inr (.inr (.inr (.inl e))))
       ·rw[if_neg es]
        exact hear_other U w L cf s j jr m.frm A n c m.data hC hj hf0 hf7 ok.few hn hr hc hw hm i a hi ha hz hd9 ⟨e0,e11,fun e=>es (.inl e),fun e=>es (.inr (.inl e)),fun e=>es (.inr (.inr (.inl e))),fun e=>es (.inr (.inr (.inr e)))⟩
   ·have e:hear cf s m=(s,[]):=by
     unfold hear
     rw[if_neg hd,hj]
     simp only
     rw[if_pos hz]
    rw[e]
    exact hear_lost U w L cf s j jr m.frm A n c m.data hC hj hf0 hf7 ok.few hn hr hc hw hm (.inl hz)
end Go.Proofs.YtdiljpdohmeceaaGreat.co
namespace Go.Proofs.YtdiljpdohmeceaaGreat.co
open Go.RowKit Go.Sort H O opk frame wir
abbrev Mch:=ByteArray×Int
theorem mLe_tot(a b:Mch):(mLe a b||mLe b a)=true:=by
 rw[<-so.mLe_eq,<-so.mLe_eq]
 simp only[Bool.or_eq_true,Bool.not_eq_true']
 cases e:ltOf so.cmpM b a with
 |false=>exact .inl rfl
 |true=>exact .inr (so.swoM.asymmA e)
theorem mLe_tr(a b c:Mch)(h1:mLe a b=true)(h2:mLe b c=true):mLe a c=true:=by
 rw[<-so.mLe_eq] at h1 h2⊢
 simp only[Bool.not_eq_true'] at h1 h2⊢
 exact so.swoM.ntrans _ _ _ h2 h1
def mSd(l:List Mch):Prop:=l.Pairwise (fun a b=>mLe a b=true)
theorem sortM_of{l r:List Mch}(h:mSd r)(p:r.Perm l):r=sortM l:=by
 have e:=sortM_perm p
 rw[<-e]
 exact(List.mergeSort_of_pairwise h).symm
def Parts(wd:Nat)(l:List Mch):Prop:=∀i j (hi:i<l.length) (hj:j<l.length),i<j->i/wd=j/wd->mLe l[i] l[j]=true
theorem Parts.one(l:List Mch):Parts 1 l:=fun i j _ _ hij h=>by
 rw[Nat.div_one,Nat.div_one] at h
 omega
theorem Parts.all{wd:Nat}{l:List Mch}(h:Parts wd l)(hl:l.length<=wd):mSd l:=by
 refine List.pairwise_iff_getElem.2 (fun i j hi hj hij=>h i j hi hj hij ?_)
 rw[Nat.div_eq_of_lt (by omega),Nat.div_eq_of_lt (by omega)]
def cut(l:List Mch)(x m:Nat):List Mch:=(l.take m).drop x
theorem cut_len(l:List Mch)(x m:Nat)(hm:m<=l.length):(cut l x m).length=m-x:=by simp[cut];omega
theorem cut_nil{l:List Mch}{x m:Nat}(h:m<=x):cut l x m=[]:=by
 unfold cut
 exact List.drop_eq_nil_of_le (by rw[List.length_take];omega)
theorem cut_cons{l:List Mch}{x m:Nat}(h:x<m)(hm:m<=l.length):cut l x m=l[x]'(by omega)::cut l (x+1) m:=by
 unfold cut
 rw[List.drop_eq_getElem_cons (by rw[List.length_take];omega)]
 congr 1
 exact List.getElem_take
theorem cut_get{l:List Mch}{x m i:Nat}(hm:m<=l.length)(h:i<(cut l x m).length):(cut l x m)[i]=l[x+i]'(by have:=cut_len l x m hm;omega):=by
 have hl:=cut_len l x m hm
 have e:(cut l x m)[i]?=l[x+i]?:=by
  unfold cut
  rw[List.getElem?_drop,List.getElem?_take,if_pos (by omega)]
 rw[List.getElem?_eq_getElem h,List.getElem?_eq_getElem (by omega)] at e
 exact Option.some.inj e
theorem cut_sd{l:List Mch}{wd x m:Nat}(h:Parts wd l)(hm:m<=l.length){t:Nat}(hx:t*wd<=x)(hm2:m<=(t+1)*wd):mSd (cut l x m):=by
 refine List.pairwise_iff_getElem.2 (fun i j hi hj hij=> ?_)
 rw[cut_get hm hi,cut_get hm hj]
 have hl:=cut_len l x m hm
 refine h _ _ _ _ (by omega) ?_
 have hd:∀y,t*wd<=y->y<(t+1)*wd->y/wd=t:=fun y h1 h2=>by
  rw[Nat.div_eq_iff (by
   rcases Nat.eq_zero_or_pos wd with e|e
   ·subst e;omega
   ·exact e)]
  have:(t+1)*wd=t*wd+wd:=by rw[Nat.succ_mul]
  omega
 rw[hd _ (by omega) (by omega),hd _ (by omega) (by omega)]
theorem cut_app{l:List Mch}{x m z:Nat}(h1:x<=m)(h2:m<=z):cut l x m++cut l m z=cut l x z:=by
 unfold cut
 rw[<-List.take_append_drop (m-x) ((l.take z).drop x)]
 congr 1
 ·rw[List.take_drop,List.take_take]
  congr 2
  omega
 ·rw[List.drop_drop]
  congr 1
  omega
def mrg(a b:List Mch):List Mch:=List.merge a b mLe
theorem mrg_left{a b:List Mch}{x:Mch}(h:b=[]\/∃y r,b=y::r/\mLe x y=true):mrg (x::a) b=x::mrg a b:=by
 rcases h with rfl|⟨y,r,rfl,h⟩
 ·simp[mrg]
 ·unfold mrg
  rw[List.cons_merge_cons,if_pos h]
theorem mrg_right{a b:List Mch}{y:Mch}(h:a=[]\/∃x r,a=x::r/\mLe x y=false):mrg a (y::b)=y::mrg a b:=by
 rcases h with rfl|⟨x,r,rfl,h⟩
 ·simp[mrg]
 ·unfold mrg
  rw[List.cons_merge_cons,if_neg (by rw[h];simp)]
theorem mrg_nil:mrg [] []=[]:=by simp[mrg]
theorem mrg_perm(a b:List Mch):(mrg a b).Perm (a++b):=List.merge_perm_append _
theorem mrg_sd{a b:List Mch}(ha:mSd a)(hb:mSd b):mSd (mrg a b):=List.pairwise_merge (fun a b c=>mLe_tr a b c) mLe_tot a b ha hb
theorem mrg_len(a b:List Mch):(mrg a b).length=a.length+b.length:=by
 rw[(mrg_perm a b).length_eq,List.length_append]
structure Passed(wd:Nat)(l:List Mch)(x:Nat)(out:List Mch):Prop where
 le:x<=l.length
 perm:out.Perm (l.take x)
 parts:Parts (2*wd) out
theorem Passed.len{wd:Nat}{l:List Mch}{x:Nat}{out:List Mch}(h:Passed wd l x out):out.length=x:=by
 rw[h.perm.length_eq,List.length_take]
 have:=h.le
 omega
theorem Passed.zero(wd:Nat)(l:List Mch):Passed wd l 0 []:=⟨by omega,List.Perm.refl _,fun i j hi _ _ _=>by simp at hi⟩
theorem Passed.next{wd:Nat}{l:List Mch}{x t:Nat}{out:List Mch}(h:Passed wd l x out)(hl:Parts wd l)(hw:0<wd)(hx:x=t*(2*wd)){m z:Nat}(hm:m=min (x+wd) l.length)(hz:z=min (x+2*wd) l.length):Passed wd l z (out++mrg (cut l x m) (cut l m z)):=by
 have hle:=h.le
 have hlen:=h.len
 have xm:x<=m:=by omega
 have mz:m<=z:=by omega
 have zl:z<=l.length:=by omega
 have e2:t*(2*wd)=(2*t)*wd:=by rw[<-Nat.mul_assoc,Nat.mul_comm t 2]
 have e3:(2*t+1)*wd=(2*t)*wd+wd:=by rw[Nat.succ_mul]
 have e4:(2*t+1+1)*wd=(2*t)*wd+wd+wd:=by rw[Nat.succ_mul,e3]
 have s1:=cut_sd (x:=x) (m:=m) hl (by omega) (t:=2*t) (by omega) (by omega)
 have hms:mSd (mrg (cut l x m) (cut l m z)):=by
  by_cases e:m=l.length
  ·rw[cut_nil (show z<=m by omega)]
   exact mrg_sd s1 List.Pairwise.nil
  ·exact mrg_sd s1 (cut_sd hl zl (t:=2*t+1) (by omega) (by omega))
 have hml:(mrg (cut l x m) (cut l m z)).length=z-x:=by
  rw[mrg_len,cut_len l x m (by omega),cut_len l m z zl]
  omega
 refine⟨zl, ?_,fun i j hi hj hij hd=> ?_⟩
 ·have e:l.take z=l.take x++cut l x z:=by
   have e9:=(List.take_append_drop x (l.take z)).symm
   rw[List.take_take,show min x z=x by omega] at e9
   exact e9
  rw[e]
  refine h.perm.append ?_
  rw[<-cut_app xm mz]
  exact mrg_perm _ _
 ·rw[List.length_append,hlen,hml] at hi hj
  by_cases h1:j<x
  ·rw[List.getElem_append_left (by omega),List.getElem_append_left (by omega)]
   exact h.parts i j (by omega) (by omega) hij hd
  ·by_cases h2:i<x
   ·exfalso
    have a1:i/(2*wd)<t:=Nat.div_lt_of_lt_mul (by rw[Nat.mul_comm];omega)
    have a2:t<=j/(2*wd):=(Nat.le_div_iff_mul_le (by omega)).2 (by omega)
    omega
   ·rw[List.getElem_append_right (by omega),List.getElem_append_right (by omega)]
    exact List.pairwise_iff_getElem.1 hms _ _ _ _ (by omega)
structure Mrging(l:List Mch)(m z:Nat)(all:List Mch)(i k:Nat)(out:List Mch):Prop where
 im:i<=m
 mk0:m<=k
 kz:k<=z
 zl:z<=l.length
 eq:out++mrg (cut l i m) (cut l k z)=all
 len:out.length+(m-i)+(z-k)=z
theorem Mrging.start{wd:Nat}{l:List Mch}{x:Nat}{out:List Mch}(h:Passed wd l x out){m z:Nat}(xm:x<=m)(mz:m<=z)(zl:z<=l.length):Mrging l m z (out++mrg (cut l x m) (cut l m z)) x m out:=⟨xm,Nat.le_refl _,mz,zl,rfl,by have:=h.len;omega⟩
theorem Mrging.left{l:List Mch}{m z:Nat}{all:List Mch}{i k:Nat}{out:List Mch}(h:Mrging l m z all i k out)(hi:i<m)(hk:z<=k\/∃h9:k<l.length,mLe (l[i]'(by have:=h.mk0;have:=h.kz;have:=h.zl;omega)) l[k]=true):Mrging l m z all (i+1) k (out++[l[i]'(by have:=h.mk0;have:=h.kz;have:=h.zl;omega)]):=by
 have:=h.mk0;have:=h.kz;have:=h.zl
 refine⟨hi,h.mk0,h.kz,h.zl, ?_,by have:=h.len;simp;omega⟩
 have e:=h.eq
 rw[cut_cons hi (by omega),mrg_left] at e
 ·refine Eq.trans ?_ e
  rw[List.append_assoc]
  rfl
 ·by_cases hz:z<=k
  ·exact .inl (cut_nil hz)
  ·rcases hk with h1|⟨h9,h1⟩
   ·exact absurd h1 hz
   ·exact .inr ⟨_,_,cut_cons (by omega) h.zl,h1⟩
theorem Mrging.right{l:List Mch}{m z:Nat}{all:List Mch}{i k:Nat}{out:List Mch}(h:Mrging l m z all i k out)(hk:k<z)(hi:m<=i\/∃h9:i<l.length,mLe l[i] (l[k]'(by have:=h.zl;omega))=false):Mrging l m z all i (k+1) (out++[l[k]'(by have:=h.zl;omega)]):=by
 have:=h.mk0;have:=h.zl
 have him:=h.im
 refine⟨h.im,by omega,hk,h.zl, ?_,by have:=h.len;simp;omega⟩
 have e:=h.eq
 rw[cut_cons hk h.zl,mrg_right] at e
 ·refine Eq.trans ?_ e
  rw[List.append_assoc]
  rfl
 ·by_cases hz:m<=i
  ·exact .inl (cut_nil hz)
  ·rcases hi with h1|⟨h9,h1⟩
   ·exact absurd h1 hz
   ·exact .inr ⟨_,_,cut_cons (by omega) (by omega),h1⟩
theorem Mrging.done{l:List Mch}{m z:Nat}{all:List Mch}{i k:Nat}{out:List Mch}(h:Mrging l m z all i k out)(hi:m<=i)(hk:z<=k):out=all:=by
 have e:=h.eq
 rw[cut_nil hi,cut_nil hk,mrg_nil,List.append_nil] at e
 exact e
structure Pass(a0:List Mch)(wd:Nat)(l:List Mch):Prop where
 perm:l.Perm a0
 parts:Parts wd l
 pos:1<=wd
theorem Pass.start(a0:List Mch):Pass a0 1 a0:=⟨List.Perm.refl _,Parts.one _,Nat.le_refl _⟩
theorem Pass.next{a0:List Mch}{wd:Nat}{l out:List Mch}(h:Pass a0 wd l)(k:Passed wd l l.length out):Pass a0 (2*wd) out:=⟨by
 have:=k.perm
 rw[List.take_length] at this
 exact this.trans h.perm,k.parts,by have:=h.pos;omega⟩
theorem Pass.done{a0:List Mch}{wd:Nat}{l:List Mch}(h:Pass a0 wd l)(hl:l.length<=wd):l=sortM a0:=sortM_of (h.parts.all hl) h.perm
end Go.Proofs.YtdiljpdohmeceaaGreat.co
namespace Go.Proofs.YtdiljpdohmeceaaGreat.refr
open Go.RowKit H O opk haystacklaw13
theorem info_match:(Tryz.prog.info? 73).map (fun i=>(i.zero,i.size,i.bytes))=some (some (.agg #[.string ⟨#[]⟩,.int .i64 0]),2,24):=by kernel_rfl
theorem appM{w:World}{ops:Array Oper}{rest:List Oper}{o:Oper}{a:Act}{Q:Exit->Act->World->Prop}(hgd:o.guard=none)(s x:Operand)
 (ho:o.op= .call {callee:= .builtin .append,args:= #[s,x],argTypes:= #[59,59]})
 (v:Value) (n:Nat) (xs:List Value) (hs:a.eval s=v) (hown:w.ownsRow 0 73 2 v n xs) (g:Nat) (key:ByteArray) (y:Int)
 (hx:a.eval x= .slice (some ⟨g,0,none⟩) 1 1) (hc:PlAt w g key y) (hm:n+1<=100000)
 (h:∀v' w',w'.ownsRow 0 73 2 v' (n+1) (xs++[.string key,.int .i64 y])->Kp v.ownBlock.toList w w'->At w.heap.size v.ownBlock v'.ownBlock->
  wpList Tryz.prog ops Q rest (a.put o.dst v') w'):wpList Tryz.prog ops Q (o::rest) a w:=
 wpList_app hgd s x 59 ho 73 (.agg #[.string ⟨#[]⟩,.int .i64 0]) 2 24 Tryz.underlying59 info_match (by kernel_rfl) (by decide) v n xs hs hown (some ⟨g,0,none⟩) 1 1 [.string key,.int .i64 y] hx rfl
  (by
   intro j u hj
   match j,hj with
   |0,hj=>simp at hj;subst hj;exact⟨_,rfl,by rw[add_zero'];exact hc.cells.1⟩
   |1,hj=>simp at hj;subst hj;exact⟨_,rfl,by rw[Addr.add_lit];exact hc.cells.2⟩)
  (by simp) (by intro u hu;simp only[List.mem_cons,List.not_mem_nil,or_false] at hu;rcases hu with rfl|rfl<;>rfl) (by omega) (by omega)
  (fun v' w' h1 h2 h3 _=>h v' w' h1 h2 h3)
structure MR(w wr:World)(b N0:Nat)(v:Value)(k:Nat)(l:List (ByteArray×Int))(s:Option (List Int)):Prop where
 kp:Kp [] w wr
 own:wr.ownsRow 0 73 2 v k (mv l)
 lo:∀y,v.ownBlock=some y->N0<=y
 rdr:∃g,Rdr wr b g s/\∀y,g=some y->y<N0
 ord:w.heap.size<=b/\b<N0/\N0<=wr.heap.size
theorem MR.skip{w wr w1:World}{b N0:Nat}{v:Value}{k:Nat}{l:List (ByteArray×Int)}{s:Option (List Int)}(h:MR w wr b N0 v k l s)(kk:Kp [] wr w1):MR w w1 b N0 v k l s:=by
 obtain⟨g,hr,hg⟩:=h.rdr
 have:=kk.size
 exact⟨h.kp.trans kk (by simp),kk.own h.own (by simp),h.lo,⟨g,hr.kp kk (by simp) (by simp),hg⟩,⟨h.ord.1,h.ord.2.1,Nat.le_trans h.ord.2.2 this⟩⟩
theorem MR.took{w wr w1:World}{b N0:Nat}{v:Value}{k:Nat}{l:List (ByteArray×Int)}{s s':Option (List Int)}{g g':Option Nat}(h:MR w wr b N0 v k l s)(hg:∀y,g=some y->y<N0)(R:Rdr w1 b g' s')(G:g'=g\/g'=none)(kk:Kp [b] wr w1):MR w w1 b N0 v k l s':=by
 obtain⟨o1,o2,o3⟩:=h.ord
 have:=kk.size
 exact⟨h.kp.trans kk (by intro x hx;simp at hx;omega),kk.own h.own (fun y hy=>by have:=h.lo y hy;simp;omega),h.lo,⟨g',R,fun y hy=>by rcases G with e|e;exact hg y (by rw[<-e];exact hy);rw[e] at hy;cases hy⟩,⟨o1,o2,by omega⟩⟩
theorem MR.put{w wr w2:World}{b N0:Nat}{v v':Value}{k:Nat}{l:List (ByteArray×Int)}{s:Option (List Int)}{m:ByteArray×Int}(h:MR w wr b N0 v k l s)(o:w2.ownsRow 0 73 2 v' (k+1) (mv l++[.string m.1,.int .i64 m.2]))(kk:Kp v.ownBlock.toList wr w2)(a:At wr.heap.size v.ownBlock v'.ownBlock):MR w w2 b N0 v' (k+1) (l++[m]) s:=by
 obtain⟨o1,o2,o3⟩:=h.ord
 obtain⟨g,hr,hg⟩:=h.rdr
 have hs:=kk.size
 have hS:∀i,i<N0->i∉v.ownBlock.toList:=fun i hi hm=>by have:=h.lo i (by simpa using hm);omega
 refine⟨h.kp.row kk (fun z hz=> .inr (by have:=h.lo z hz;omega)),by rw[mv_app];exact o,a.ge o3 h.lo,⟨g,hr.kp kk (hS _ o2) (fun z hz=>hS z (hg z hz)),hg⟩,⟨o1,o2,by omega⟩⟩
theorem MR.start{w w2:World}{b:Nat}{g:Option Nat}{s:Option (List Int)}(kp:Kp [] w w2)(R:Rdr w2 b g s)(hg:∀y,g=some y->y<w2.heap.size)(hb:w.heap.size<=b):MR w w2 b w2.heap.size (.slice none 0 0) 0 [] s:=
 ⟨kp,World.ownsRow_nil _ 0 _ 2,by simp[Value.ownBlock],⟨g,R,hg⟩,⟨hb,R.lt,Nat.le_refl _⟩⟩
theorem MR.box{w:World}{A:Option Addr}{n c:Nat}{xs:List Int}(hn:xs.length=n)(hr:Rd w A (iv .u8 xs))(hc:n<=c)(hc9:c<=9223372036854775807)(hnil:A=none->c=0)(hA:∀a,A=some a->a.block<w.heap.size)(hw:Wf xs):
 MR w (w.alloc (.cells #[.slice A n c,.bool false] 106)) w.heap.size (w.heap.size+1) (.slice none 0 0) 0 [] (some xs):=by
 subst hn
 have hg:∀y,A.map Addr.block=some y->y<w.heap.size:=by
  intro y hy
  cases A with
  |none=>simp at hy
  |some a=>simp at hy;rw[<-hy];exact hA a rfl
 refine⟨(Kp.refl [] w).alloc _,World.ownsRow_nil _ 0 _ 2,by simp[Value.ownBlock],⟨A.map Addr.block,⟨A,c,heap_alloc_new w _,rfl,((Kp.refl [] w).alloc _).rd_new hr (by simp),hc,hc9,hnil, ?_,hw⟩,fun y hy=>by have:=hg y hy;omega⟩,⟨Nat.le_refl _,by omega,by simp⟩⟩
 intro e
 have:=hg _ e
 omega
theorem MR.err{w wr:World}{b N0:Nat}{v:Value}{k:Nat}{l:List (ByteArray×Int)}{s:Option (List Int)}(h:MR w wr b N0 v k l s):wr.cell? ⟨b,1,none⟩=some (.bool s.isNone):=by
 obtain⟨g,⟨A,c,h1,_⟩,_⟩:=h.rdr
 exact bkc h1 1 rfl
theorem take_bytes{w wr:World}{b N0:Nat}{v:Value}{k:Nat}{l:List (ByteArray×Int)}{s s4:Option (List Int)}{p:List Int}(h:MR w wr b N0 v k l s)(hl:(left s).length<=140737488351232)(hs:stBytes s=(p,s4)):
 Calls Tryz.prog 36 #[.pointer (some ⟨b,0,none⟩)] wr fun e w5=>∃A5 n5 c5,e= .returned (.slice A5 n5 c5)/\p.length=n5/\MR w w5 b N0 v k l s4/\(∀w6,Kp [b] w5 w6->Rd w6 A5 (iv .u8 p))/\Kp [b] wr w5:=by
 obtain⟨g,R,hg⟩:=h.rdr
 refine(bytes_any b g s wr R hl).mono ?_
 rw[hs]
 rintro e w5 ⟨v5,rfl,O,g5,R5,G5,K5⟩
 have O':=O
 obtain⟨A5,c5,rfl,_,_,r5,_⟩:=own_rd O.1
 refine⟨A5,_,c5,rfl,rfl,h.took hg R5 G5 K5,fun w6 k6=>k6.rd r5 ?_,K5⟩
 intro a ha hm
 have h1:=O'.2 a.block (by rw[ha];rfl)
 have h2:=h.ord
 simp at hm
 omega
theorem take_num{w wr:World}{b N0:Nat}{v:Value}{k:Nat}{l:List (ByteArray×Int)}{s s4:Option (List Int)}{y:Nat}(h:MR w wr b N0 v k l s)(hl:(left s).length<=140737488351232)(hs:stNum s=(y,s4)):
 Calls Tryz.prog 35 #[.pointer (some ⟨b,0,none⟩)] wr fun e w5=>e= .returned (.int .i64 (y:Int))/\MR w w5 b N0 v k l s4/\Kp [b] wr w5:=by
 obtain⟨g,R,hg⟩:=h.rdr
 refine(num_any b g s wr R hl).mono ?_
 rw[hs]
 rintro e w5 ⟨rfl,g5,R5,G5,K5⟩
 exact⟨rfl,h.took hg R5 G5 K5,K5⟩
theorem take_bad{w wr:World}{b N0:Nat}{v:Value}{k:Nat}{l:List (ByteArray×Int)}{s:Option (List Int)}(h:MR w wr b N0 v k l s):
 Calls Tryz.prog 78 #[.pointer (some ⟨b,0,none⟩)] wr fun e w5=>e= .returned (.tuple #[])/\MR w w5 b N0 v k l none/\Kp [b] wr w5:=by
 obtain⟨g,R,hg⟩:=h.rdr
 refine(bad_any b g s wr R).mono ?_
 rintro e w5 ⟨rfl,g5,R5,G5,K5⟩
 exact⟨rfl,h.took hg R5 G5 K5,K5⟩
theorem take_whole{w wr:World}{b N0:Nat}{v:Value}{k:Nat}{l:List (ByteArray×Int)}{s:Option (List Int)}(h:MR w wr b N0 v k l s):
 Calls Tryz.prog 37 #[.pointer (some ⟨b,0,none⟩)] wr fun e w5=>e= .returned (.bool (whole s))/\w5=wr:=by
 obtain⟨g,R,hg⟩:=h.rdr
 exact whole_any b g s wr R
theorem MR.made{w w7:World}{b N0 X:Nat}{v:Value}{k:Nat}{l:List (ByteArray×Int)}{s:Option (List Int)}{key0:ByteArray}{x0:Int}(h:MR w w7 b N0 v k l s)(hz:PlAt w7 X key0 x0)(hX:N0<=X)(hv:∀y,v.ownBlock=some y->y<X)(key:ByteArray)(x:Int):
 MR w ((w7.setCell ⟨X,0,none⟩ (.string key)).setCell ⟨X,1,none⟩ (.int .i64 x)) b N0 v k l s/\PlAt ((w7.setCell ⟨X,0,none⟩ (.string key)).setCell ⟨X,1,none⟩ (.int .i64 x)) X key x/\b<X:=by
 obtain⟨o1,o2,o3⟩:=h.ord
 obtain⟨g,hr,hg⟩:=h.rdr
 have e1:PlAt (w7.setCell ⟨X,0,none⟩ (.string key)) X key x0:=heap_setCell_same w7 X 0 _ _ (.string key) hz
 have e2:PlAt ((w7.setCell ⟨X,0,none⟩ (.string key)).setCell ⟨X,1,none⟩ (.int .i64 x)) X key x:=heap_setCell_same _ X 1 _ _ (.int .i64 x) e1
 have kk:Kp [X] w7 ((w7.setCell ⟨X,0,none⟩ (.string key)).setCell ⟨X,1,none⟩ (.int .i64 x)):=((Kp.refl _ w7).setCell (.inl (by simp)) _).setCell (.inl (by simp)) _
 have hs:=kk.size
 refine⟨⟨h.kp.trans kk (by intro y hy;simp at hy;omega),kk.own h.own (fun y hy=>by have:=hv y hy;simp;omega),h.lo,⟨g,hr.kp kk (by simp;omega) (fun y hy=>by have:=hg y hy;simp;omega),hg⟩,⟨o1,o2,by omega⟩⟩,e2,by omega⟩
theorem MR.laid{w w7:World}{b N0:Nat}{v:Value}{k:Nat}{l:List (ByteArray×Int)}{s:Option (List Int)}(h:MR w w7 b N0 v k l s)(key:ByteArray)(x:Int):
 MR w (w7.alloc (.cells #[.string key,.int .i64 x] 73)) b N0 v k l s/\PlAt (w7.alloc (.cells #[.string key,.int .i64 x] 73)) w7.heap.size key x/\b<w7.heap.size:=
 ⟨h.skip ((Kp.refl [] _).alloc _),PlAt.new _ _ _,by have:=h.ord;omega⟩
def DMs(xs:List Int)(w:World)(e:Ending)(w':World):Prop:=
 ∃(l:List (ByteArray×Int)) (z:Int) (A:Option Addr) (n c:Nat),dMs xs=(l,z)/\e= .returned (.tuple #[.slice A n c,.int .i64 z])/\l.length=n/\Rd w' A (mv l)/\n<=c/\(A=none->c=0)/\Kp [] w w'
theorem dms_none{xs:List Int}{w w':World}(h:dMs xs=([],3))(k:Kp [] w w'):DMs xs w (.returned (.tuple #[.slice none 0 0,.int .i64 3])) w':=
 ⟨[],3,none,0,0,h,rfl,rfl,Rd.nil _ _,Nat.le_refl _,fun _=>rfl,k⟩
end Go.Proofs.YtdiljpdohmeceaaGreat.refr
namespace Go.Proofs.YtdiljpdohmeceaaGreat.co.cr
open Go.RowKit H O opk frame wir
theorem less_lt(a b:ByteArray):Op.bytesLess a.toList b.toList=decide (kb a<kb b):=by
 rw[Lib.toList_data,Lib.toList_data,bytesLess_eq]
 have h:=so.cmp_kb a b
 have e:∀x y:List UInt8,x<y↔(x.map fun c=>(c.toNat:Int))<(y.map fun c=>(c.toNat:Int)):=fun x y=>by
  induction x generalizing y with
  |nil=>cases y<;>simp
  |cons p x ih=>
   cases y with
   |nil=>simp
   |cons q y=>
    simp only[List.map_cons,List.cons_lt_cons_iff,ih]
    have e1:p<q↔(p.toNat:Int)<(q.toNat:Int):=by rw[UInt8.lt_iff_toNat_lt];omega
    have e2:p=q↔(p.toNat:Int)=(q.toNat:Int):=by rw[<-UInt8.toNat_inj];omega
    rw[e1,e2]
 exact decide_eq_decide.2 (e _ _)
theorem less_any(x y:Mch)(w:World):Calls Tryz.prog 140 #[.agg #[.string x.1,.int .i64 x.2],.agg #[.string y.1,.int .i64 y.2]] w fun e w'=>e= .returned (.bool (!mLe y x))/\Kp [] w w':=by
 obtain⟨xk,xn⟩:=x
 obtain⟨yk,yn⟩:=y
 have kk:Kp [] w ((w.alloc (.cells #[.string xk,.int .i64 xn] 73)).alloc (.cells #[.string yk,.int .i64 yn] 73)):=((Kp.refl [] w).alloc _).alloc _
 have HK:=As.mk kk
 have hl:=less_lt xk yk
 have hM:mLe (yk,yn) (xk,xn)=(decide (kb yk<kb xk)||(decide (kb yk=kb xk)&&decide (yn<=xn))):=rfl
 rcases so.lex_tri (kb xk) (kb yk) with h|h|h
 ·have e:(!mLe (yk,yn) (xk,xn))=true:=by
   rw[hM,decide_eq_false (fun e=>so.lex_irr _ (so.lex_tr h e)),decide_eq_false (fun e=>by rw[e] at h;exact so.lex_irr _ h)]
   rfl
  rw[e]
  rw[decide_eq_true h] at hl
  clear hM h e kk
  go_enter Tryz.func140,Tryz.ntmps140
  go_wp2
  go_ret
  exact⟨rfl,HK.out⟩
 ·obtain rfl:=kb_inj h
  rw[decide_eq_false (so.lex_irr _)] at hl
  have e:(!mLe (xk,yn) (xk,xn))=decide (xn<yn):=by
   rw[hM,decide_eq_false (so.lex_irr _),decide_eq_true rfl]
   simp only[Bool.false_or,Bool.true_and]
   by_cases h:xn<yn
   ·rw[decide_eq_true h,decide_eq_false (by omega)];rfl
   ·rw[decide_eq_false h,decide_eq_true (by omega)];rfl
  rw[e]
  clear hM h e kk
  go_enter Tryz.func140,Tryz.ntmps140
  go_wp2
  go_ret
  exact⟨rfl,HK.out⟩
 ·have e:(!mLe (yk,yn) (xk,xn))=false:=by
   rw[hM,decide_eq_true h]
   rfl
  rw[e]
  have hnl:¬kb xk<kb yk:=fun e=>so.lex_irr _ (so.lex_tr h e)
  have hne:¬xk.toList=yk.toList:=fun e=>by
   have:=haystacklaw13.str_eq e
   subst this
   exact so.lex_irr _ h
  rw[decide_eq_false hnl] at hl
  clear hM h e kk hnl
  go_enter Tryz.func140,Tryz.ntmps140
  go_wp2
  go_ret
  exact⟨rfl,HK.out⟩
end Go.Proofs.YtdiljpdohmeceaaGreat.co.cr
