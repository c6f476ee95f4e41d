/- Words and walks that this claim rests on: proved lemmas alone. -/
import Derived.Test.YtdiljpdohmeceaaGreatZ24
set_option maxHeartbeats 16000000
set_option maxRecDepth 100000
namespace Go.Proofs.YtdiljpdohmeceaaGreat.co
open Go.RowKit H O opk frame wir
theorem own_lit{w:World}{T:TypeId}(vs:List Value)(k:Nat)(hk:vs.length=1*k):(w.alloc (.cells vs.toArray T)).ownsRow 0 T k (.slice (some ⟨w.heap.size,0,none⟩) 1 1) 1 vs:=
 ⟨hk,.inr ⟨w.heap.size,1,vs.toArray,rfl,Nat.zero_le _,heap_alloc_new w _,Nat.le_refl _,by decide,by simpa using hk,by rw[<-hk];simp⟩⟩
theorem CsOk.hint{cf:Cfg}{s:Cs}(h:CsOk cf s){i:Nat}{a:Ask}(ha:s.asks[i]?=some a){at_:Nat}(hat:at_<(cf.shards.getD a.shard []).length):CsOk cf {s with whom:=s.whom.set a.shard at_,asks:=s.asks.set i {a with hinted:=true}}:=by
 have aok:=h.asks a (List.mem_of_getElem? ha)
 have h2:=h.ask i (a:={a with hinted:=true}) ⟨aok.shard,aok.ctx,aok.frame,aok.tried,aok.waited⟩
 refine⟨h2.cfg,by show(s.whom.set a.shard at_).length=_;rw[List.length_set];exact h2.wlen,fun k hk hk2=> ?_,h2.jobs,h2.asks,h2.none,h2.few⟩
 have hk:k<(s.whom.set a.shard at_).length:=hk
 show(s.whom.set a.shard at_)[k]<_
 rw[List.getElem_set]
 split
 ·rename_i e
  subst e
  simpa [List.getD,hk2] using hat
 ·exact h.whom k (by rw[List.length_set] at hk;exact hk) hk2
theorem hear_hint(U:List Nat)(w:World)(L:Lay)(cf:Cfg)(s:Cs)(j:Job)(jr:List Job)(frm:Int)(A:Option Addr)(n c:Nat)(data:List Int)(hC:CoSt U w L cf s)(hj:s.jobs=j::jr)(hf0:0<=frm)(hf7:frm<7)(hfew:s.asks.length<=8)(hn:data.length=n)(hr:Rd w A (iv .u8 data))(hc:n<=c)(hw:Wf data)(hm:n<=50000)(i:Nat)(a:Ask)(hi:askIx s.asks (dWRep data).1.ctx=some i)(ha:s.asks[i]?=some a)(hz0:(dWRep data).2=0)(ok:CsOk cf s)(at_:Nat)(he:(dWRep data).1.err=11)(hat:nodeIx cf a.shard (dWRep data).1.hint=some at_)(hnf:(dWRep data).1.hint≠frm)(hnh:a.hinted=false):
 Calls Tryz.prog 17 #[.pointer (some ⟨L.b,0,none⟩),.agg #[.int .i64 frm,.int .i64 (cf.id:Int),.slice A n c]] w (TickPost U L cf ({s with whom:=s.whom.set a.shard at_,asks:=s.asks.set i {a with waited:=0,hinted:=true}},[msgOf cf (s.whom.set a.shard at_) a]) w):=by
 have HCS:=As.mk hC
 obtain⟨κ,VS,VW,VJ,VD,MV,AV,l,h⟩:=hC
 have HP:=As.mk h
 have hjl:=h.jl
 rw[hj] at hjl
 obtain⟨p0,ps,hjs⟩:∃p ps,L.js=p::ps:=by
  cases e:L.js with
  |nil=>rw[e] at hjl;simp at hjl
  |cons p ps=>exact⟨p,ps,rfl⟩
 obtain⟨qb,qo,qc,rfl,q0⟩:=h.jq.cell (i:=0) (p:=p0) (by rw[hjs];rfl)
 obtain⟨m,hm1⟩:∃m,L.js.length=m+1:=⟨ps.length,by rw[hjs];rfl⟩
 have hd:=h.hd
 rw[hm1] at hd
 rw[Nat.add_zero] at q0
 unfold ptr at q0
 obtain⟨tv,dv,hp,_,_⟩:=h.ja 0 j p0 (by rw[hj];rfl) (by rw[hjs];rfl)
 rw[if_pos rfl,if_pos rfl] at hp
 obtain⟨na,hna⟩:∃na,s.asks.length=na:=⟨_,rfl⟩
 rw[hna] at hfew
 have hal:L.az.length=na:=by rw[h.al,hna]
 have hao:=h.aq.1
 rw[hal] at hao
 obtain⟨AA,cA,rfl,_⟩:=own_rd hao
 have HAQ:=As.mk hao
 obtain⟨W,hW⟩:∃W,W=w.alloc (msgObj frm (cf.id:Int) A n c):=⟨_,rfl⟩
 have kW:Kp [] w W:=by rw[hW];exact(Kp.refl [] w).alloc _
 have hb:W.heap[w.heap.size]?=some (msgObj frm (cf.id:Int) A n c):=by rw[hW];exact heap_alloc_new w _
 have m0:W.cell? ⟨w.heap.size,0,none⟩=some (.int .i64 frm):=bkc hb 0 rfl
 have m1:W.cell? ⟨w.heap.size,1,none⟩=some (.int .i64 (cf.id:Int)):=bkc hb 1 rfl
 have m2:W.cell? ⟨w.heap.size,2,none⟩=some (.slice A n c):=bkc hb 2 rfl
 have HMB:=As.mk hb
 have b0:=kW.cell (bkc hd 0 rfl) (by simp)
 have b5:=kW.cell (bkc hd 5 rfl) (by simp)
 have HK:=As.mk kW
 have e1:((cf.id:Int) !=(cf.id:Int))=false:=by simp
 have e2:decide (frm<0)=false:=decide_eq_false (by omega)
 have e3:decide (7<=frm)=false:=decide_eq_false (by omega)
 have e4:((m:Int)+1==0)=false:=by simp;omega
 obtain⟨ctx,hctx⟩:∃x,(dWRep data).1.ctx=x:=⟨_,rfl⟩
 obtain⟨er,her⟩:∃x,(dWRep data).1.err=x:=⟨_,rfl⟩
 obtain⟨hint,hhint⟩:∃x,(dWRep data).1.hint=x:=⟨_,rfl⟩
 obtain⟨dat,hdat⟩:∃x,(dWRep data).1.data=x:=⟨_,rfl⟩
 obtain⟨z,hz⟩:∃x,(dWRep data).2=x:=⟨_,rfl⟩
 have HDR:As (∀wX,Kp [] W wX->Calls Tryz.prog 44 #[.slice A n c] wX fun e w'=>∃AD nD cD,e= .returned (.tuple #[.agg #[.int .i64 ctx,.int .i64 er,.int .i64 hint,.slice AD nD cD],.int .i64 z])/\As (Own 5 .u8 w' wX.heap.size (.slice AD nD cD) dat/\Kp [] wX w')):=⟨fun wX kX=>by
  refine(decodeReply_any A n c data wX hn ((kW.trans kX (by simp)).rd_new hr (by simp)) hc hw (by omega)).mono ?_
  rintro e w' ⟨AD,nD,cD,rfl,o,k⟩
  rw[hctx,her,hhint,hz]
  rw[hdat] at o
  exact⟨AD,nD,cD,rfl,⟨o,k⟩⟩⟩
 have HL:As (∀w2,Kp [] w w2->w2.cell? ⟨L.b,5,none⟩=some (.slice (some ⟨qb,qo,none⟩) (m+1) qc)/\w2.cell? ⟨qb,qo,none⟩=some (.pointer (some ⟨p0,0,none⟩))/\w2.cell? ⟨p0,13,none⟩=some (.slice AA na cA)/\(L.b<w2.heap.size/\¬L.b=w2.heap.size)/\(qb<w2.heap.size/\¬qb=w2.heap.size)/\p0<w2.heap.size/\¬p0=w2.heap.size):=⟨fun w2 k=>by
  have a1:=k.cell (bkc hd 5 rfl) (by simp)
  have a2:=k.cell q0 (by simp)
  have a3:=k.cell (bkc hp 13 rfl) (by simp)
  have s1:=World.block_lt_of_cell? w2 _ a1
  have s2:=World.block_lt_of_cell? w2 _ a2
  have s3:=World.block_lt_of_cell? w2 _ a3
  simp only at s1 s2 s3
  exact⟨a1,a2,a3,⟨s1,by omega⟩,⟨s2,by omega⟩,s3,by omega⟩⟩
 have HIX:As (∀r,IdxR (askPr s.asks ctx) na r->∀w2 AD nD cD,Kp [] w w2->Calls Tryz.prog 45 #[.slice AA na cA,.func (.func 46) #[] #[.pointer (some ⟨w2.heap.size,0,none⟩)]] (w2.alloc (.cells #[.int .i64 ctx,.int .i64 er,.int .i64 hint,.slice AD nD cD] 112)) fun e w'=>e= .returned (.int .i64 r)/\As (∃q,w'=(w2.alloc (.cells #[.int .i64 ctx,.int .i64 er,.int .i64 hint,.slice AD nD cD] 112)).drewN q)):=⟨fun r hr w2 AD nD cD k=>by
  refine(asks_index HP.out hal hna hfew k ctx er hint AD nD cD r hr).mono ?_
  rintro e w' ⟨rfl,q,hq⟩
  exact⟨rfl,⟨q,hq⟩⟩⟩
 have hna0:0<na:=by
  have:=(List.getElem?_eq_some_iff.1 ha).1
  omega
 obtain⟨ga,cA2,e9,_⟩:=own_form hao hna0
 cases e9
 have hi9:i<na:=by rw[<-hna];exact(List.getElem?_eq_some_iff.1 ha).1
 obtain⟨p,hpz⟩:∃p,L.az[i]?=some p:=⟨_,List.getElem?_eq_getElem (by rw[hal];exact hi9)⟩
 have hgp:w.cell? ⟨ga,i,none⟩=some (.pointer (some ⟨p,0,none⟩)):=by
  rw[hao.cellAt i (by omega)]
  simp[hpz,ptr]
 have hix:IdxR (askPr s.asks ctx) na i:=by
  rw[hctx] at hi
  obtain⟨_,_,_,_,h9⟩:=askIx_some hi
  rwa[hna] at h9
 have HIX2:=As.mk (HIX.out (i:Int) hix)
 have HGP:=As.mk (And.intro hpz hgp)
 have HI9:=As.mk ha
 rw[hz] at hz0
 subst hz0
 clear hix HIX hi
 have aok:=ok.asks a (List.mem_of_getElem? ha)
 obtain⟨bS,oS,cS,Ab,Ao,nj,cj,cw,wi,rfl,hbS,s0,hAb,rfl,w1',fw1,e2',hlt2,h7',e7,s2⟩:=h.dest ok aok.shard
 obtain⟨kd,dva,fva,hba,_⟩:=h.aa i a p ha hpz
 have HC3:As (∀w4,Kp [] w w4->w4.cell? ⟨L.b,3,none⟩=some (.slice (some ⟨bS,oS,none⟩) cf.shards.length cS)/\w4.cell? ⟨L.b,4,none⟩=some (.slice (some ⟨L.gw,0,none⟩) s.whom.length cw)/\w4.cell? ⟨p,2,none⟩=some (.int .i64 (a.shard:Int))/\w4.cell? ⟨p,7,none⟩=some (.bool a.hinted)/\w4.frozen? ⟨p,7,none⟩=false/\w4.cell? ⟨bS,oS+a.shard,none⟩=some (.slice (some ⟨Ab,Ao,none⟩) nj cj)/\w4.cell? ⟨L.gw,a.shard,none⟩=some (.int .i64 (wi:Int))/\w4.frozen? ⟨L.gw,a.shard,none⟩=false):=⟨fun w4 k=>by
  have hb4:=k.blk hba (by simp)
  have ho4:=k.own h.wh.1 (by simp)
  refine⟨k.cell (bkc hd 3 rfl) (by simp),k.cell (bkc hd 4 rfl) (by simp),bkc hb4 2 rfl,bkc hb4 7 rfl,blk_free hb4 7,k.cell s0 (by simp),k.cell w1' (by simp), ?_⟩
  exact ho4.frozenAt a.shard⟩
 have HIN:As (∀r,IdxR (fun i=>decide (hint=(cf.shards.getD a.shard []).getD i 0)) nj r->∀wX,Kp [] w wX->Calls Tryz.prog 47 #[.slice (some ⟨Ab,Ao,none⟩) nj cj,.int .i64 hint] wX fun e w'=>e= .returned (.int .i64 r)/\w'=wX):=⟨fun r hr wX k=>by
  refine index_any _ nj cj (cf.shards.getD a.shard []) hint r wX e7 (by omega) (fun jj v hv=> ?_) hr
  have hjj:jj<nj:=by
   have:=(List.getElem?_eq_some_iff.1 hv).1
   rw[iv_len,e7] at this
   exact this
  refine⟨_,rfl, ?_⟩
  rw[Addr.add_lit,k.cell (s2 jj hjj) (by simp)]
  rw[<-hv,iv_get _ _ _ (by rw[e7];exact hjj)]
  have hgd:∀(l:List Int) (h:jj<l.length),l.getD jj 0=l[jj]:=fun l h=>by simp[List.getD,h]
  rw[hgd _ (by rw[e7];exact hjj)]⟩
 have t0:(0:Int)<=(a.shard:Int):=by omega
 have t1:(a.shard:Int)<(cf.shards.length:Int):=by have:=aok.shard;omega
 have t2:(a.shard:Int)<(s.whom.length:Int):=by have:=aok.shard;have:=ok.wlen;omega
 rw[her] at he
 rw[hhint] at hat hnf
 obtain⟨hat1,hat2⟩:=nodeIx_some hat
 rw[e7] at hat2
 have HINR:=As.mk (HIN.out (at_:Int) hat2)
 have k0:decide ((at_:Int)<0)=false:=decide_eq_false (by omega)
 have kk:(hint==frm)=false:=by simpa using hnf
 obtain⟨fl,hfl⟩:∃k,a.frame.length=k:=⟨_,rfl⟩
 obtain⟨dd,hdd⟩:∃k,dest cf (s.whom.set a.shard at_) a.shard=k:=⟨_,rfl⟩
 have hil:=(List.getElem?_eq_some_iff.1 ha).1
 have HSN:As (∀w4 q,Kp [] w w4->Calls Tryz.prog 48 #[.pointer (some ⟨L.b,0,none⟩),.pointer (some ⟨p,0,none⟩)] (((w4.drewN q).setCell ⟨L.gw,a.shard,none⟩ (.int .i64 (at_:Int))).setCell ⟨p,7,none⟩ (.bool true)) fun e w6=>∃A6 c6,e= .returned (.agg #[.int .i64 (cf.id:Int),.int .i64 dd,.slice A6 fl c6])/\
  As (BSl (L.all++U) w6 (.slice A6 fl c6) a.frame/\CoSt U w6 L cf {s with whom:=s.whom.set a.shard at_,asks:=s.asks.set i {a with waited:=0,hinted:=true}}/\Kp L.all w w6)):=⟨fun w4 q k=>by
  obtain⟨q1,q2⟩:=HP.out.hint k ok hpz ha at_ q
  refine(sends_any U _ L cf _ i p {a with hinted:=true} q1 (ok.hint ha hat1) hpz (by show(s.asks.set i _)[i]?=_;simp[hil])).mono ?_
  rintro e w6 ⟨v,rfl,hb6,hc6,hk6⟩
  obtain⟨A6,c6,rfl,hb7⟩:=id hb6
  have hset:(s.asks.set i {a with hinted:=true}).set i {a with waited:=0,hinted:=true}=s.asks.set i {a with waited:=0,hinted:=true}:=List.set_set ..
  have hc6':CoSt U w6 L cf {s with whom:=s.whom.set a.shard at_,asks:=(s.asks.set i {a with hinted:=true}).set i {a with waited:=0,hinted:=true}}:=hc6
  rw[hset] at hc6'
  have hb6':BSl (L.all++U) w6 (.slice A6 a.frame.length c6) a.frame:=hb6
  rw[hfl] at hb6'
  exact⟨A6,c6,by rw[<-hdd,<-hfl],⟨hb6',hc6',q2.trans hk6 (fun x hx=> .inl (by simp at hx;rw[hx];exact Lay.mem.2 (by simp[List.mem_of_getElem? hpz])))⟩⟩⟩
 have HDD:=As.mk (And.intro hdd hfl)
 have hgp1:¬L.gw=p:=by
  have e1:=h.sep.az p (List.mem_of_getElem? hpz)
  have e2:=h.sep.gw
  intro e
  rw[<-e] at e1
  omega
 have hgp2:¬p=L.gw:=fun e=>hgp1 e.symm
 have HLT:=As.mk (HCS.out.lt)
 rw[hnh] at HC3
 have i0:decide ((i:Int)<0)=false:=decide_eq_false (by omega)
 have i1:(0:Int)<=(i:Int):=by omega
 have i2:(i:Int)<(na:Int):=by omega
 clear h hd hal hao hb hn hr hc hw hm hctx her hhint hdat hjl hm1 kW q0 hj hjs hna HAQ ha hpz hgp aok s0 hbS hAb w1' fw1 e2' hlt2 h7' e7 s2 hba hat hat1 hat2 hnf hnh hdd hfl hil ok
 clear HIN
 subst he
 unfold msgObj at hW
 go_enter Tryz.func17,Tryz.ntmps17
 go_upto_region 1 with fail
 rw[<-hW]
 clear hW
 go_quiet (fail)
 go_upto_region 18 with(first
  |(go_at_call 44;refine(HDR.out _ ((Kp.refl [] W).drewN _)).mono ?_;rintro e w2 ⟨AD,nD,cD,rfl,HD⟩;have HK2:As (Kp [] w w2):=⟨(HK.out.drewN _).trans HD.out.2 (by simp)⟩;obtain⟨z1,z2,z3,⟨z4,z5⟩,⟨z6,z7⟩,z8,z9⟩:=HL.out w2 HK2.out;have HI2:=As.mk (HIX2.out w2 AD nD cD HK2.out);clear HDR HL HIX2)
  |(go_at_call 45;refine HI2.out.mono ?_;rintro e w4 ⟨rfl,HQ⟩;have HH4:=As.mk (HearA.mk2 HK2.out (((Kp.refl [] W).drewN _).trans HD.out.2 (by simp)) HD.out.1 HQ.out (HK.out.size));have y13:=HH4.out.kp.cell (bkc hp 13 rfl) (by simp);have yga:=HH4.out.kp.cell HGP.out.2 (by simp);have r1:=bkc HH4.out.blk 1 rfl;have r2:=bkc HH4.out.blk 2 rfl;have r3:=bkc HH4.out.blk 3 rfl;obtain⟨g3,g4,g5,g6,g7,g8,g9,g10⟩:=HC3.out w4 HH4.out.kp;have mm0:=HH4.out.kp2.cell m0 (by simp);clear HI2))
 go_quiet ((go_at_call 47;refine Calls.quiet_of_same (HINR.out _ (by first|exact HH4.out.kp|exact HH4.out.kp.drewN _))))
 go_upto_region 21 with fail
 go_cut [] from 120 to 133 (fun wx=>∃q:Nat,wx=((w4.drewN q).setCell ⟨L.gw,a.shard,none⟩ (.int .i64 (at_:Int))).setCell ⟨p,7,none⟩ (.bool true))
 case first=>
  go_region
  all_goals
   go_wp2_with fail
   go_meet
   exact⟨_,rfl⟩
 case rest=>
  obtain⟨q,rfl⟩:=hcut
  have HS6:=As.mk (HSN.out w4 q HH4.out.kp)
  clear HSN
  go_wp2_with (go_at_call 48;refine HS6.out.mono ?_;rintro e w6 ⟨A6,c6,rfl,HF6⟩;clear HS6)
  go_ret
  obtain⟨hb6,hc6,hk6⟩:=HF6.out
  have hA:Kp [] w6 (w6.alloc (.cells #[.int .i64 (cf.id:Int),.int .i64 dd,.slice A6 fl c6] 44)):=(Kp.refl [] w6).alloc _
  have hs6:=hk6.size
  refine⟨L,_,rfl,hc6.kp hA (by simp) (fun x hx=> .inl hx),⟨[.int .i64 (cf.id:Int),.int .i64 dd,.slice A6 fl c6],own_lit [.int .i64 (cf.id:Int),.int .i64 dd,.slice A6 fl c6] 3 rfl,fun g hg hm=> ?_, ?_⟩,Grew.refl _ _,hk6.trans hA (by simp)⟩
  ·have:g=w6.heap.size:=by simpa [Value.ownBlock] using hg.symm
   have:=HLT.out g hm
   omega
  ·have e1:msgOf cf (s.whom.set a.shard at_) a=⟨cf.id,dd,a.frame⟩:=by rw[<-HDD.out.1];rfl
   rw[e1]
   refine MsOk.snoc (l:=[]) (vs:=[]) (hb6.kp hA (by simp) (fun x hx=> ?_)) rfl
   simp only[List.mem_append,Option.mem_toList] at hx
   rcases hx with e|e|e
   ·right
    have:x=w6.heap.size:=by simpa [Value.ownBlock] using e.symm
    omega
   ·exact .inl (List.mem_append.2 (.inl e))
   ·exact .inl (List.mem_append.2 (.inr e))
theorem fDec_le{b:List Int}:(fDec b).1.length<=b.length:=by
 unfold fDec
 repeat' split
 all_goals simp only[List.length_nil,List.length_drop,List.length_take]
 all_goals omega
theorem fOne_le{b:List Int}:(fOne b).1.length<=b.length:=by
 unfold fOne
 split
 ·simp
 ·exact fDec_le
theorem stRaw_fst{n:Int}{s:Option (List Int)}:(stRaw n s).1.length<=(left s).length/\(Wf (left s)->Wf (stRaw n s).1):=by
 cases s with
 |none=>exact⟨by simp[stRaw],fun _=>by simp only[stRaw];exact Wf.nil⟩
 |some l=>
  simp only[stRaw]
  split
  ·exact⟨by simp,fun _=>Wf.nil⟩
  ·exact⟨by simp only[left,Option.getD_some,List.length_take];omega,fun h=>h.take _⟩
theorem stRaw_snd{n:Int}{s:Option (List Int)}:(left (stRaw n s).2).length<=(left s).length/\(Wf (left s)->Wf (left (stRaw n s).2)):=by
 cases s with
 |none=>exact⟨by simp[stRaw,left],fun _=>by simp[stRaw,left,Wf]⟩
 |some l=>
  simp only[stRaw]
  split
  ·exact⟨by simp[left],fun _=>by simp[left,Wf]⟩
  ·exact⟨by simp only[left,Option.getD_some,List.length_drop];omega,fun h=>h.drop _⟩
theorem stNum_snd{s:Option (List Int)}:(left (stNum s).2).length<=(left s).length/\(Wf (left s)->Wf (left (stNum s).2)):=
 ⟨reader.left_le (Nat.le_refl _),stNum_wf⟩
theorem stNums_snd:∀(k:Nat) (s:Option (List Int)),(left (stNums k s).2).length<=(left s).length/\(Wf (left s)->Wf (left (stNums k s).2))
 |0,s=>⟨Nat.le_refl _,id⟩
 |k+1,s=>by
  have h1:=stNums_snd k (stNum s).2
  have h2:=stNum_snd (s:=s)
  exact⟨Nat.le_trans h1.1 h2.1,fun h=>h1.2 (h2.2 h)⟩
theorem stBytes_fst{s:Option (List Int)}:(stBytes s).1.length<=(left s).length/\(Wf (left s)->Wf (stBytes s).1):=by
 have h1:=stRaw_fst (n:=(stNum s).1) (s:=(stNum s).2)
 have h2:=stNum_snd (s:=s)
 exact⟨Nat.le_trans h1.1 h2.1,fun h=>h1.2 (h2.2 h)⟩
theorem rd3_dat(mark:Int)(most:Nat)(xs:List Int):(rd3 mark most xs).2.1.length<=xs.length/\(Wf xs->Wf (rd3 mark most xs).2.1):=by
 unfold rd3
 split
 ·exact⟨by simp,fun _=>Wf.nil⟩
 ·split
  ·exact⟨by simp,fun _=>Wf.nil⟩
  ·split
   ·have h1:=stBytes_fst (s:=(stNums 3 (stRaw 1 (some (fOne xs).1)).2).2)
    have h2:=stNums_snd 3 (stRaw 1 (some (fOne xs).1)).2
    have h3:=stRaw_snd (n:=1) (s:=some (fOne xs).1)
    have h4:=fOne_le (b:=xs)
    refine⟨?_,fun h=>h1.2 (h2.2 (h3.2 (fOne_wf h)))⟩
    refine Nat.le_trans h1.1 (Nat.le_trans h2.1 (Nat.le_trans h3.1 ?_))
    simpa [left] using h4
   ·exact⟨by simp,fun _=>Wf.nil⟩
theorem dWRep_dat(xs:List Int):(dWRep xs).1.data.length<=xs.length/\(Wf xs->Wf (dWRep xs).1.data):=by
 unfold dWRep
 split
 ·exact⟨by simp,fun _=>Wf.nil⟩
 ·split
  ·exact rd3_dat 114 524288 xs
  ·exact⟨by simp,fun _=>Wf.nil⟩
def TkB(p0 m:Nat)(MV:Value)(l:List (ByteArray×Int))(wk ok:Int)(cid:Nat)(key:ByteArray)(c11 c12 c13:Value)(t:Took)(w w':World)(mv':Value):Prop:=
 ∃was has tv text ms,w'.heap[p0]?=some (jobRun m was has tv mv' wk ok cid key c11 c12 c13)/\Own 5 .u8 w' w.heap.size tv text/\w'.ownsRow 0 73 2 mv' (l++ms).length (mv (l++ms))/\At w.heap.size MV.ownBlock mv'.ownBlock/\
  Kp (p0::MV.ownBlock.toList) w w'/\(t.err=0->was=t.was/\has=t.has/\text=t.text/\ms=t.ms)/\(wk=2->was=false/\has=false/\tv= .slice none 0 0)
theorem TkP.b{p0 m:Nat}{MV:Value}{l:List (ByteArray×Int)}{wk ok:Int}{cid:Nat}{key:ByteArray}{c11 c12 c13:Value}{t:Took}{w w':World}{e:Ending}(h:TkP p0 m MV l wk ok cid key c11 c12 c13 t w e w'):
 ∃A n c,e= .returned (.int .i64 t.err)/\w'.cell? ⟨p0,13,none⟩=some c13/\w'.cell? ⟨p0,5,none⟩=some (.slice A n c)/\TkB p0 m MV l wk ok cid key c11 c12 c13 t w w' (.slice A n c):=by
 obtain⟨was,has,tv,mv',text,ms,rfl,h1,h2,h3,h4,h5,h6,h7⟩:=h
 obtain⟨A,c,rfl,_⟩:=own_rd h3
 exact⟨A,_,c,rfl,bkc h1 13 rfl,bkc h1 5 rfl,was,has,tv,text,ms,h1,h2,h3,h4,h5,h6,h7⟩
theorem own_ne_type{w:World}{e1 e2:TypeId}{k1 k2 n1 n2:Nat}{v1 v2:Value}{x1 x2:List Value}(h1:w.ownsRow 0 e1 k1 v1 n1 x1)(h2:w.ownsRow 0 e2 k2 v2 n2 x2)(hne:e1≠e2){g:Nat}(g1:v1.ownBlock=some g)(g2:v2.ownBlock=some g):False:=by
 rcases h1.2 with⟨rfl,_⟩|⟨a,_,_,rfl,_,b1,_⟩
 ·cases g1
 ·rcases h2.2 with⟨rfl,_⟩|⟨b,_,_,rfl,_,b2,_⟩
  ·cases g2
  ·simp only[Value.ownBlock,Option.some.injEq] at g1 g2
   subst g1 g2
   rw[b1] at b2
   cases b2
   exact hne rfl
theorem ends_took{U:List Nat}{w5 w6 w7:World}{L:Lay}{cf:Cfg}{s:Cs}{κ:Nat->Nat}{VS VW VJ VD MV AV mv':Value}{l l2:List (ByteArray×Int)}(h:CoP U w5 L cf s κ VS VW VJ VD MV AV l){j:Job}{jr:List Job}{p0:Nat}{ps:List Nat}(hj:s.jobs=j::jr)(hjs:L.js=p0::ps)
 {wk ok:Int} {cid:Nat} {key:ByteArray} {c11 c12 c13:Value} {t:Took} (T:TkB p0 s.ended MV l wk ok cid key c11 c12 c13 t w5 w6 mv') (k7:Kp mv'.ownBlock.toList w6 w7) (o7:w7.ownsRow 0 73 2 mv' l2.length (mv l2)) (hd9:s.done.length<=1000000) (e:Int) (he:e=0->t.err=0):
 Calls Tryz.prog 32 #[.pointer (some ⟨L.b,0,none⟩),.int .i64 e] w7 fun en w'=>en= .returned (.tuple #[])/\EndsI U L cf (endJob s (if e=0 then⟨s.ended,0,t.was,t.has,t.text,l2⟩ else⟨s.ended,e,false,false,[],[]⟩)) ps w5 w':=by
 obtain⟨was,has,tv,text,ms,h1,h2,h3,h4,h5,h6,h7⟩:=T
 have hgm:L.gm=MV.ownBlock:=h.mq.2.1.symm
 have hp7:=h.sep.js p0 (by rw[hjs];simp)
 have s5:=h5.size
 have s7:=k7.size
 have hmb:∀g,mv'.ownBlock=some g->L.gm=some g\/w5.heap.size<=g:=fun g e=>by
  rcases h4 with e2|⟨y,e2,hy⟩
  ·left;rw[hgm,<-e2];exact e
  ·rw[e2] at e;cases e;exact .inr hy
 have hSlt:∀x∈L.b::L.gw::(L.gj.toList++L.js)++U++L.gd.toList,x<w5.heap.size/\κ x≠6:=by
  intro x hx
  simp only[List.mem_cons,List.mem_append,List.cons_append,Option.mem_toList] at hx
  rcases hx with e|e|((e|e)|e)|e
  ·have:=h.sep.b;rw[<-e] at this;omega
  ·have:=h.sep.gw;rw[<-e] at this;omega
  ·have:=h.sep.gj x e;omega
  ·have:=h.sep.js x e;omega
  ·have:=h.sep.U x e;omega
  ·have:=h.sep.gd x e;omega
 have hmS:∀g,mv'.ownBlock=some g->g∉L.b::L.gw::(L.gj.toList++L.js)++U++L.gd.toList:=fun g e hm=>by
  have:=hSlt g hm
  rcases hmb g e with e2|e2
  ·have:=h.sep.gm g e2;omega
  ·omega
 have hp0:p0∉mv'.ownBlock.toList:=fun hm=>by
  rcases hmb p0 (by simpa using hm) with e2|e2
  ·have:=h.sep.gm p0 e2;omega
  ·omega
 have k57:Kp (p0::L.gm.toList) w5 w7:=by
  rw[hgm]
  refine h5.trans k7 (fun x hx=> ?_)
  rcases hmb x (by simpa using hx) with e2|e2
  ·left
   rw[hgm] at e2
   simp[e2]
  ·exact .inr e2
 have h27:Own 5 .u8 w7 w5.heap.size tv text:=h2.kp k7 (fun g hg hm=>own_ne_type h2.1 h3 (by decide) hg (by simpa using hm))
 have htv:BSl (L.b::L.gw::(L.gj.toList++L.js)++U++L.gd.toList) w7 tv text:=BSl.own h27 (fun x hx=> .inl (hSlt x hx).1)
 have hmv:MSl (L.b::L.gw::(L.gj.toList++L.js)++U++L.gd.toList) w7 mv' l2:=MSl.own o7 hmS
 have hb7:=k7.blk h1 hp0
 unfold jobRun at hb7
 have:=ends_any U w5 w7 L cf s κ VS VW VJ VD MV AV l j jr p0 ps h hj hjs k57 was has tv mv' _ _ _ _ _ _ _ _ text l2 e hb7 htv hmv hd9
 refine this.mono ?_
 rintro en w' ⟨rfl,q⟩
 refine⟨rfl, ?_⟩
 rw[resOf] at q
 by_cases e0:e=0
 ·rw[if_pos e0] at q⊢
  obtain⟨rfl,rfl,rfl,_⟩:=h6 (he e0)
  exact q
 ·rw[if_neg e0] at q⊢
  exact q
theorem EndsI.back{U:List Nat}{w w5 w':World}{L:Lay}{cf:Cfg}{s':Cs}{ps:List Nat}(h:EndsI U L cf s' ps w5 w')(k:Kp L.all w w5):EndsI U L cf s' ps w w':=by
 obtain⟨L',h1,h2,h3,h4⟩:=h
 exact⟨L',h1,⟨h2.1,fun x hx=>(h2.2 x hx).imp id (fun e=>Nat.le_trans k.size e)⟩,h3,k.trans h4 (fun x hx=> .inl hx)⟩
theorem took_err0{j:Job}{data:List Int}:(took j data).ms.length<=data.length:=by
 unfold took
 split
 ·unfold tookW;repeat' split
  all_goals simp
 ·split
  ·unfold tookW;repeat' split
   all_goals simp
  ·split
   ·unfold tookG;repeat' split
    all_goals simp
   ·unfold tookF;split
    ·exact dMs_len data
    ·simp
def waits(az:List Ask):Bool:=az.any fun x=> !x.answered
def waitPr(az:List Ask)(k:Nat):Bool:=match az[k]? with
 |some x=> !x.answered
 |none=>false
theorem waits_iff(az:List Ask):waits az=true↔∃i,i<az.length/\waitPr az i=true:=by
 unfold waits
 rw[List.any_eq_true]
 constructor
 ·rintro⟨x,hx,h⟩
  obtain⟨i,hi,rfl⟩:=List.mem_iff_getElem.1 hx
  exact⟨i,hi,by unfold waitPr;rw[List.getElem?_eq_getElem hi];exact h⟩
 ·rintro⟨i,hi,h⟩
  unfold waitPr at h
  rw[List.getElem?_eq_getElem hi] at h
  exact⟨az[i],List.getElem_mem hi,h⟩
theorem asks_wait{U:List Nat}{w5 w6:World}{L:Lay}{cf:Cfg}{s:Cs}{κ:Nat->Nat}{VS VW VJ VD MV mv':Value}{l:List (ByteArray×Int)}{ga na cA:Nat}(h:CoP U w5 L cf s κ VS VW VJ VD MV (.slice (some ⟨ga,0,none⟩) na cA) l)(hna:s.asks.length=na)(hn8:na<=8){p0 m:Nat}{ps:List Nat}(hjs:L.js=p0::ps)
 {wk ok:Int} {cid:Nat} {key:ByteArray} {c11 c12 c13:Value} {t:Took} (T:TkB p0 m MV l wk ok cid key c11 c12 c13 t w5 w6 mv') (b:Bool) (hb:waits s.asks=b):
 Calls Tryz.prog 50 #[.slice (some ⟨ga,0,none⟩) na cA,.func (.func 51) #[] #[]] w6 fun e w'=>e= .returned (.bool b)/\∃q,w'=w6.drewN q:=by
 obtain⟨was,has,tv,text,ms,h1,h2,h3,h4,k,h6,h7⟩:=T
 have hgm:L.gm=MV.ownBlock:=h.mq.2.1.symm
 have hp7:=h.sep.js p0 (by rw[hjs];simp)
 have hal:L.az.length=na:=by rw[h.al,hna]
 have ho:=h.aq.1
 rw[hal] at ho
 have hoff:∀x c,κ x=c->c≠6->c≠7->x∉p0::MV.ownBlock.toList:=fun x c hx c6 c7 hm=>by
  rcases List.mem_cons.1 hm with e|e
  ·rw[e] at hx;omega
  ·have:=h.sep.gm x (by rw[hgm];simpa using e);omega
 have hga:L.ga=some ga:=by simpa [Value.ownBlock] using h.aq.2.symm
 subst hb
 refine contains2_any ga na cA L.az (waitPr s.asks) (waits s.asks) w6 hal (by omega) (fun i p hp=> ?_) (fun i p q hp=> ?_) (by rw[waits_iff,hna])
 ·have hi2:i<na:=by rw[<-hal];exact(List.getElem?_eq_some_iff.1 hp).1
  refine k.cell ?_ (hoff ga _ (h.sep.ga ga hga).1 (by decide) (by decide))
  rw[ho.cellAt i (by omega)]
  simp[hp]
 ·have hi:i<s.asks.length:=by rw[hna,<-hal];exact(List.getElem?_eq_some_iff.1 hp).1
  have ha:s.asks[i]?=some s.asks[i]:=List.getElem?_eq_getElem hi
  obtain⟨_,_,_,_,_,_,c8,_⟩:=(h.aa i _ p ha hp).cells
  have:=hear2_any p s.asks[i].answered w6 q (k.cell c8 (hoff p _ (h.sep.az p (List.mem_of_getElem? hp)).1 (by decide) (by decide)))
  unfold waitPr
  rw[ha]
  exact this
theorem hear_bad(U:List Nat)(w:World)(L:Lay)(cf:Cfg)(s:Cs)(j:Job)(jr:List Job)(frm:Int)(A:Option Addr)(n c:Nat)(data:List Int)(hC:CoSt U w L cf s)(hj:s.jobs=j::jr)(hf0:0<=frm)(hf7:frm<7)(hfew:s.asks.length<=8)(hn:data.length=n)(hr:Rd w A (iv .u8 data))(hc:n<=c)(hw:Wf data)(hm:n<=50000)(i:Nat)(a:Ask)(hi:askIx s.asks (dWRep data).1.ctx=some i)(ha:s.asks[i]?=some a)(hz0:(dWRep data).2=0)(ok:CsOk cf s)(hd9:s.done.length<=1000000)(hml:(s.asks.flatMap (·.ms)).length<=1000000)(he:(dWRep data).1.err=0)(hte:(took j (dWRep data).1.data).err≠0):
 Calls Tryz.prog 17 #[.pointer (some ⟨L.b,0,none⟩),.agg #[.int .i64 frm,.int .i64 (cf.id:Int),.slice A n c]] w (TickPost U L cf (endErr s (took j (dWRep data).1.data).err,[]) w):=by
 have HCS:=As.mk hC
 obtain⟨κ,VS,VW,VJ,VD,MV,AV,l,h⟩:=hC
 have HP:=As.mk h
 have hjl:=h.jl
 rw[hj] at hjl
 obtain⟨p0,ps,hjs⟩:∃p ps,L.js=p::ps:=by
  cases e:L.js with
  |nil=>rw[e] at hjl;simp at hjl
  |cons p ps=>exact⟨p,ps,rfl⟩
 obtain⟨qb,qo,qc,rfl,q0⟩:=h.jq.cell (i:=0) (p:=p0) (by rw[hjs];rfl)
 obtain⟨m,hm1⟩:∃m,L.js.length=m+1:=⟨ps.length,by rw[hjs];rfl⟩
 have hd:=h.hd
 rw[hm1] at hd
 rw[Nat.add_zero] at q0
 unfold ptr at q0
 obtain⟨tv,dv,hp,_,_⟩:=h.ja 0 j p0 (by rw[hj];rfl) (by rw[hjs];rfl)
 rw[if_pos rfl,if_pos rfl] at hp
 obtain⟨na,hna⟩:∃na,s.asks.length=na:=⟨_,rfl⟩
 rw[hna] at hfew
 have hal:L.az.length=na:=by rw[h.al,hna]
 have hao:=h.aq.1
 rw[hal] at hao
 obtain⟨AA,cA,rfl,_⟩:=own_rd hao
 have HAQ:=As.mk hao
 obtain⟨W,hW⟩:∃W,W=w.alloc (msgObj frm (cf.id:Int) A n c):=⟨_,rfl⟩
 have kW:Kp [] w W:=by rw[hW];exact(Kp.refl [] w).alloc _
 have hb:W.heap[w.heap.size]?=some (msgObj frm (cf.id:Int) A n c):=by rw[hW];exact heap_alloc_new w _
 have m0:W.cell? ⟨w.heap.size,0,none⟩=some (.int .i64 frm):=bkc hb 0 rfl
 have m1:W.cell? ⟨w.heap.size,1,none⟩=some (.int .i64 (cf.id:Int)):=bkc hb 1 rfl
 have m2:W.cell? ⟨w.heap.size,2,none⟩=some (.slice A n c):=bkc hb 2 rfl
 have HMB:=As.mk hb
 have b0:=kW.cell (bkc hd 0 rfl) (by simp)
 have b5:=kW.cell (bkc hd 5 rfl) (by simp)
 have HK:=As.mk kW
 have e1:((cf.id:Int) !=(cf.id:Int))=false:=by simp
 have e2:decide (frm<0)=false:=decide_eq_false (by omega)
 have e3:decide (7<=frm)=false:=decide_eq_false (by omega)
 have e4:((m:Int)+1==0)=false:=by simp;omega
 obtain⟨ctx,hctx⟩:∃x,(dWRep data).1.ctx=x:=⟨_,rfl⟩
 obtain⟨er,her⟩:∃x,(dWRep data).1.err=x:=⟨_,rfl⟩
 obtain⟨hint,hhint⟩:∃x,(dWRep data).1.hint=x:=⟨_,rfl⟩
 obtain⟨dat,hdat⟩:∃x,(dWRep data).1.data=x:=⟨_,rfl⟩
 obtain⟨z,hz⟩:∃x,(dWRep data).2=x:=⟨_,rfl⟩
 have HDR:As (∀wX,Kp [] W wX->Calls Tryz.prog 44 #[.slice A n c] wX fun e w'=>∃AD nD cD,e= .returned (.tuple #[.agg #[.int .i64 ctx,.int .i64 er,.int .i64 hint,.slice AD nD cD],.int .i64 z])/\As (Own 5 .u8 w' wX.heap.size (.slice AD nD cD) dat/\Kp [] wX w')):=⟨fun wX kX=>by
  refine(decodeReply_any A n c data wX hn ((kW.trans kX (by simp)).rd_new hr (by simp)) hc hw (by omega)).mono ?_
  rintro e w' ⟨AD,nD,cD,rfl,o,k⟩
  rw[hctx,her,hhint,hz]
  rw[hdat] at o
  exact⟨AD,nD,cD,rfl,⟨o,k⟩⟩⟩
 have HL:As (∀w2,Kp [] w w2->w2.cell? ⟨L.b,5,none⟩=some (.slice (some ⟨qb,qo,none⟩) (m+1) qc)/\w2.cell? ⟨qb,qo,none⟩=some (.pointer (some ⟨p0,0,none⟩))/\w2.cell? ⟨p0,13,none⟩=some (.slice AA na cA)/\(L.b<w2.heap.size/\¬L.b=w2.heap.size)/\(qb<w2.heap.size/\¬qb=w2.heap.size)/\p0<w2.heap.size/\¬p0=w2.heap.size):=⟨fun w2 k=>by
  have a1:=k.cell (bkc hd 5 rfl) (by simp)
  have a2:=k.cell q0 (by simp)
  have a3:=k.cell (bkc hp 13 rfl) (by simp)
  have s1:=World.block_lt_of_cell? w2 _ a1
  have s2:=World.block_lt_of_cell? w2 _ a2
  have s3:=World.block_lt_of_cell? w2 _ a3
  simp only at s1 s2 s3
  exact⟨a1,a2,a3,⟨s1,by omega⟩,⟨s2,by omega⟩,s3,by omega⟩⟩
 have HIX:As (∀r,IdxR (askPr s.asks ctx) na r->∀w2 AD nD cD,Kp [] w w2->Calls Tryz.prog 45 #[.slice AA na cA,.func (.func 46) #[] #[.pointer (some ⟨w2.heap.size,0,none⟩)]] (w2.alloc (.cells #[.int .i64 ctx,.int .i64 er,.int .i64 hint,.slice AD nD cD] 112)) fun e w'=>e= .returned (.int .i64 r)/\As (∃q,w'=(w2.alloc (.cells #[.int .i64 ctx,.int .i64 er,.int .i64 hint,.slice AD nD cD] 112)).drewN q)):=⟨fun r hr w2 AD nD cD k=>by
  refine(asks_index HP.out hal hna hfew k ctx er hint AD nD cD r hr).mono ?_
  rintro e w' ⟨rfl,q,hq⟩
  exact⟨rfl,⟨q,hq⟩⟩⟩
 have hna0:0<na:=by
  have:=(List.getElem?_eq_some_iff.1 ha).1
  omega
 obtain⟨ga,cA2,e9,_⟩:=own_form hao hna0
 cases e9
 have hi9:i<na:=by rw[<-hna];exact(List.getElem?_eq_some_iff.1 ha).1
 obtain⟨p,hpz⟩:∃p,L.az[i]?=some p:=⟨_,List.getElem?_eq_getElem (by rw[hal];exact hi9)⟩
 have hgp:w.cell? ⟨ga,i,none⟩=some (.pointer (some ⟨p,0,none⟩)):=by
  rw[hao.cellAt i (by omega)]
  simp[hpz,ptr]
 have hix:IdxR (askPr s.asks ctx) na i:=by
  rw[hctx] at hi
  obtain⟨_,_,_,_,h9⟩:=askIx_some hi
  rwa[hna] at h9
 have HIX2:=As.mk (HIX.out (i:Int) hix)
 have HGP:=As.mk (And.intro hpz hgp)
 have HI9:=As.mk ha
 rw[hz] at hz0
 subst hz0
 clear hix HIX hi
 rw[her] at he
 subst he
 obtain⟨kd,dva,fva,hba,_⟩:=h.aa i a p ha hpz
 have hpl:p<w.heap.size:=lt_of_block hba
 have hpm:p∈L.all:=Lay.mem.2 (by simp[List.mem_of_getElem? hpz])
 have hpp:p0≠p:=by
  have e1:=h.sep.az p (List.mem_of_getElem? hpz)
  have e2:=h.sep.js p0 (by rw[hjs];simp)
  intro e
  rw[<-e] at e1
  omega
 have hgm:L.gm=MV.ownBlock:=h.mq.2.1.symm
 have hl6:l.length<=1000000:=by rw[h.mq.2.2.length_eq];exact hml
 have hjk:=ok.jobs j (by rw[hj];simp)
 have hdd:=dWRep_dat data
 rw[hdat] at hdd
 obtain⟨t,ht⟩:∃t,took j dat=t:=⟨_,rfl⟩
 rw[Nat.add_zero] at hp
 have HP5:As (∀w4,Kp [] w w4->(∃κ',CoP U (w4.setCell ⟨p,8,none⟩ (.bool true)) L cf {s with asks:=s.asks.set i {a with answered:=true}} κ' VS VW (.slice (some ⟨qb,qo,none⟩) L.js.length qc) VD MV (.slice (some ⟨ga,0,none⟩) na cA) l)/\Kp L.all w (w4.setCell ⟨p,8,none⟩ (.bool true))/\(w4.setCell ⟨p,8,none⟩ (.bool true)).heap[p0]?=some (jobRun s.ended false false (.slice none 0 0) MV (wkind j) (okind j) cf.id (okey j) tv dv (.slice (some ⟨ga,0,none⟩) na cA))):=⟨fun w4 k=>by
  have h4:=h.kp (U2:=U) k (by simp) (fun x hx=> .inl hx)
  have hA:=(h4.aa i a p ha hpz).set8 (List.mem_append.2 (.inl hpm)) true
  have k5:Kp [p] w4 (w4.setCell ⟨p,8,none⟩ (.bool true)):=(Kp.refl _ _).setCell (.inl (by simp)) _
  have h5:=h4.ask hpz ha k5 hA rfl
  refine⟨⟨_,h5⟩,(k.mono (by simp)).trans k5 (fun x hx=> .inl (by simp at hx;rw[hx];exact hpm)),k5.blk (k.blk hp (by simp)) (by simpa using hpp)⟩⟩
 have HTK:As (∀w4 rb AD nD cD,HearA w W w4 rb ctx 0 hint AD nD cD dat->Calls Tryz.prog 49 #[.pointer (some ⟨p0,0,none⟩),.slice AD nD cD] (w4.setCell ⟨p,8,none⟩ (.bool true)) fun e w6=>∃AM nM cM,e= .returned (.int .i64 t.err)/\w6.cell? ⟨p0,13,none⟩=some (.slice (some ⟨ga,0,none⟩) na cA)/\w6.cell? ⟨p0,5,none⟩=some (.slice AM nM cM)/\As (TkB p0 s.ended MV l (wkind j) (okind j) cf.id (okey j) tv dv (.slice (some ⟨ga,0,none⟩) na cA) t (w4.setCell ⟨p,8,none⟩ (.bool true)) w6 (.slice AM nM cM))):=⟨fun w4 rb AD nD cD X=>by
  obtain⟨⟨κ',h5⟩,k5,hb5⟩:=HP5.out w4 X.kp
  have hln:=X.own.len
  have o5:Own 5 .u8 (w4.setCell ⟨p,8,none⟩ (.bool true)) w.heap.size (.slice AD nD cD) dat:=X.own.kp (S:=[p]) ((Kp.refl _ _).setCell (.inl (by simp)) _) (fun g hg=>by have:=X.own.2 g hg;simp;omega)
  have hr9:Rd (w4.setCell ⟨p,8,none⟩ (.bool true)) AD (iv .u8 dat):=(Own.rds (S:=[]) o5 (by simp)).rd
  have hn9:AD=none->cD=0:=by
   obtain⟨_,_,e9,_,_,_,hn9⟩:=own_rd o5.1
   cases e9
   exact hn9
  refine(takes_any j hjk p0 s.ended MV l cf.id (okey j) tv dv (.slice (some ⟨ga,0,none⟩) na cA) AD nD cD dat (w4.setCell ⟨p,8,none⟩ (.bool true)) hb5 h5.mq.1 (fun g hg e=> ?_) hl6 hln hr9 hn9 (hdd.2 hw) (by omega)).mono ?_
  ·have e1:=h.sep.gm g (by rw[hgm];exact hg)
   have e2:=h.sep.js p0 (by rw[hjs];simp)
   rw[e] at e1
   omega
  ·rw[ht]
   rintro e w6 T
   obtain⟨AM,nM,cM,rfl,c1,c2,T2⟩:=T.b
   exact⟨AM,nM,cM,rfl,c1,c2,⟨T2⟩⟩⟩
 have HX8:As (∀w4,Kp [] w w4->w4.cell? ⟨p,8,none⟩=some (.bool a.answered)/\w4.frozen? ⟨p,8,none⟩=false):=⟨fun w4 k=>by
  have hb4:=k.blk hba (by simp)
  exact⟨bkc hb4 8 rfl,blk_free hb4 8⟩⟩
 rw[hdat,ht] at hte⊢
 obtain⟨te,hte2⟩:∃te,t.err=te:=⟨_,rfl⟩
 have HEN:As (∀w4 w6 mv',Kp [] w w4->TkB p0 s.ended MV l (wkind j) (okind j) cf.id (okey j) tv dv (.slice (some ⟨ga,0,none⟩) na cA) t (w4.setCell ⟨p,8,none⟩ (.bool true)) w6 mv'->Calls Tryz.prog 32 #[.pointer (some ⟨L.b,0,none⟩),.int .i64 te] w6 fun en w'=>en= .returned (.tuple #[])/\As (EndsI U L cf (endErr s te) ps w w')):=⟨fun w4 w6 mv' k T=>by
  obtain⟨⟨κ',h5⟩,k5,hb5⟩:=HP5.out w4 k
  obtain⟨was,has,tv2,text,ms,q1,q2,q3,q4,q5,q6,q7⟩:=id T
  refine(ends_took h5 (j:=j) (jr:=jr) hj hjs T (Kp.refl _ _) q3 hd9 te (fun e=>absurd (hte2.trans e) hte)).mono ?_
  rintro en w' ⟨rfl,q⟩
  rw[if_neg (by rw[<-hte2];exact hte)] at q
  exact⟨rfl,⟨q.back k5⟩⟩⟩
 rw[hte2] at hte HTK⊢
 have be:(te !=0)=true:=by simpa using hte
 have i0:decide ((i:Int)<0)=false:=decide_eq_false (by omega)
 have i1:(0:Int)<=(i:Int):=by omega
 have i2:(i:Int)<(na:Int):=by omega
 clear h hd hal hao hb hn hr hc hw hm hctx her hhint hdat hjl hm1 kW q0 hna HAQ ha hpz hgp hba hpm hgm hl6 hjk hdd ht hml
 clear hj hjs hte hte2 hd9 ok
 unfold msgObj at hW
 go_enter Tryz.func17,Tryz.ntmps17
 go_upto_region 1 with fail
 rw[<-hW]
 clear hW
 go_quiet (fail)
 go_wp2_with (first
  |(go_at_call 44;refine(HDR.out _ ((Kp.refl [] W).drewN _)).mono ?_;rintro e w2 ⟨AD,nD,cD,rfl,HD⟩;have HK2:As (Kp [] w w2):=⟨(HK.out.drewN _).trans HD.out.2 (by simp)⟩;obtain⟨z1,z2,z3,⟨z4,z5⟩,⟨z6,z7⟩,z8,z9⟩:=HL.out w2 HK2.out;have HI2:=As.mk (HIX2.out w2 AD nD cD HK2.out);have np1:¬p=w2.heap.size:=(by have:=HK2.out.size;omega);have np2:¬w2.heap.size=p:=(by have:=HK2.out.size;omega);clear HDR HL HIX2)
  |(go_at_call 45;refine HI2.out.mono ?_;rintro e w4 ⟨rfl,HQ⟩;have HH4:=As.mk (HearA.mk2 HK2.out (((Kp.refl [] W).drewN _).trans HD.out.2 (by simp)) HD.out.1 HQ.out (HK.out.size));have y13:=HH4.out.kp.cell (bkc hp 13 rfl) (by simp);have yga:=HH4.out.kp.cell HGP.out.2 (by simp);have r1:=bkc HH4.out.blk 1 rfl;have r2:=bkc HH4.out.blk 2 rfl;have r3:=bkc HH4.out.blk 3 rfl;obtain⟨x8,f8⟩:=HX8.out w4 HH4.out.kp;have HT4:=As.mk (HTK.out w4 _ _ _ _ HH4.out);clear HTK;clear HI2)
  |(go_at_call 49;refine HT4.out.mono ?_;rintro e w6 ⟨AM,nM,cM,rfl,u13,u5,HTB⟩;have HE6:=As.mk (HEN.out w4 w6 _ HH4.out.kp HTB.out);clear HEN;clear HT4)
  |(go_at_call 32;refine HE6.out.mono ?_;rintro e w7 ⟨rfl,HE7⟩;clear HE6))
 go_ret
 exact TickPost.ends HE7.out rfl
theorem hear_wait(U:List Nat)(w:World)(L:Lay)(cf:Cfg)(s:Cs)(j:Job)(jr:List Job)(frm:Int)(A:Option Addr)(n c:Nat)(data:List Int)(hC:CoSt U w L cf s)(hj:s.jobs=j::jr)(hf0:0<=frm)(hf7:frm<7)(hfew:s.asks.length<=8)(hn:data.length=n)(hr:Rd w A (iv .u8 data))(hc:n<=c)(hw:Wf data)(hm:n<=50000)(i:Nat)(a:Ask)(hi:askIx s.asks (dWRep data).1.ctx=some i)(ha:s.asks[i]?=some a)(hz0:(dWRep data).2=0)(ok:CsOk cf s)(hml:(s.asks.flatMap (·.ms)).length<=1000000)(he:(dWRep data).1.err=0)(hms0:a.ms=[])(hte:(took j (dWRep data).1.data).err=0)(hwt:waits (s.asks.set i {a with answered:=true})=true)(hk1:j.kind≠4->s.asks.length<=1):
 Calls Tryz.prog 17 #[.pointer (some ⟨L.b,0,none⟩),.agg #[.int .i64 frm,.int .i64 (cf.id:Int),.slice A n c]] w (TickPost U L cf ({s with asks:=s.asks.set i {a with answered:=true,ms:=(took j (dWRep data).1.data).ms}},[]) w):=by
 have HCS:=As.mk hC
 obtain⟨κ,VS,VW,VJ,VD,MV,AV,l,h⟩:=hC
 have HP:=As.mk h
 have hjl:=h.jl
 rw[hj] at hjl
 obtain⟨p0,ps,hjs⟩:∃p ps,L.js=p::ps:=by
  cases e:L.js with
  |nil=>rw[e] at hjl;simp at hjl
  |cons p ps=>exact⟨p,ps,rfl⟩
 obtain⟨qb,qo,qc,rfl,q0⟩:=h.jq.cell (i:=0) (p:=p0) (by rw[hjs];rfl)
 obtain⟨m,hm1⟩:∃m,L.js.length=m+1:=⟨ps.length,by rw[hjs];rfl⟩
 have hd:=h.hd
 rw[hm1] at hd
 rw[Nat.add_zero] at q0
 unfold ptr at q0
 obtain⟨tv,dv,hp,_,_⟩:=h.ja 0 j p0 (by rw[hj];rfl) (by rw[hjs];rfl)
 rw[if_pos rfl,if_pos rfl] at hp
 obtain⟨na,hna⟩:∃na,s.asks.length=na:=⟨_,rfl⟩
 rw[hna] at hfew
 have hal:L.az.length=na:=by rw[h.al,hna]
 have hao:=h.aq.1
 rw[hal] at hao
 obtain⟨AA,cA,rfl,_⟩:=own_rd hao
 have HAQ:=As.mk hao
 obtain⟨W,hW⟩:∃W,W=w.alloc (msgObj frm (cf.id:Int) A n c):=⟨_,rfl⟩
 have kW:Kp [] w W:=by rw[hW];exact(Kp.refl [] w).alloc _
 have hb:W.heap[w.heap.size]?=some (msgObj frm (cf.id:Int) A n c):=by rw[hW];exact heap_alloc_new w _
 have m0:W.cell? ⟨w.heap.size,0,none⟩=some (.int .i64 frm):=bkc hb 0 rfl
 have m1:W.cell? ⟨w.heap.size,1,none⟩=some (.int .i64 (cf.id:Int)):=bkc hb 1 rfl
 have m2:W.cell? ⟨w.heap.size,2,none⟩=some (.slice A n c):=bkc hb 2 rfl
 have HMB:=As.mk hb
 have b0:=kW.cell (bkc hd 0 rfl) (by simp)
 have b5:=kW.cell (bkc hd 5 rfl) (by simp)
 have HK:=As.mk kW
 have e1:((cf.id:Int) !=(cf.id:Int))=false:=by simp
 have e2:decide (frm<0)=false:=decide_eq_false (by omega)
 have e3:decide (7<=frm)=false:=decide_eq_false (by omega)
 have e4:((m:Int)+1==0)=false:=by simp;omega
 obtain⟨ctx,hctx⟩:∃x,(dWRep data).1.ctx=x:=⟨_,rfl⟩
 obtain⟨er,her⟩:∃x,(dWRep data).1.err=x:=⟨_,rfl⟩
 obtain⟨hint,hhint⟩:∃x,(dWRep data).1.hint=x:=⟨_,rfl⟩
 obtain⟨dat,hdat⟩:∃x,(dWRep data).1.data=x:=⟨_,rfl⟩
 obtain⟨z,hz⟩:∃x,(dWRep data).2=x:=⟨_,rfl⟩
 have HDR:As (∀wX,Kp [] W wX->Calls Tryz.prog 44 #[.slice A n c] wX fun e w'=>∃AD nD cD,e= .returned (.tuple #[.agg #[.int .i64 ctx,.int .i64 er,.int .i64 hint,.slice AD nD cD],.int .i64 z])/\As (Own 5 .u8 w' wX.heap.size (.slice AD nD cD) dat/\Kp [] wX w')):=⟨fun wX kX=>by
  refine(decodeReply_any A n c data wX hn ((kW.trans kX (by simp)).rd_new hr (by simp)) hc hw (by omega)).mono ?_
  rintro e w' ⟨AD,nD,cD,rfl,o,k⟩
  rw[hctx,her,hhint,hz]
  rw[hdat] at o
  exact⟨AD,nD,cD,rfl,⟨o,k⟩⟩⟩
 have HL:As (∀w2,Kp [] w w2->w2.cell? ⟨L.b,5,none⟩=some (.slice (some ⟨qb,qo,none⟩) (m+1) qc)/\w2.cell? ⟨qb,qo,none⟩=some (.pointer (some ⟨p0,0,none⟩))/\w2.cell? ⟨p0,13,none⟩=some (.slice AA na cA)/\(L.b<w2.heap.size/\¬L.b=w2.heap.size)/\(qb<w2.heap.size/\¬qb=w2.heap.size)/\p0<w2.heap.size/\¬p0=w2.heap.size):=⟨fun w2 k=>by
  have a1:=k.cell (bkc hd 5 rfl) (by simp)
  have a2:=k.cell q0 (by simp)
  have a3:=k.cell (bkc hp 13 rfl) (by simp)
  have s1:=World.block_lt_of_cell? w2 _ a1
  have s2:=World.block_lt_of_cell? w2 _ a2
  have s3:=World.block_lt_of_cell? w2 _ a3
  simp only at s1 s2 s3
  exact⟨a1,a2,a3,⟨s1,by omega⟩,⟨s2,by omega⟩,s3,by omega⟩⟩
 have HIX:As (∀r,IdxR (askPr s.asks ctx) na r->∀w2 AD nD cD,Kp [] w w2->Calls Tryz.prog 45 #[.slice AA na cA,.func (.func 46) #[] #[.pointer (some ⟨w2.heap.size,0,none⟩)]] (w2.alloc (.cells #[.int .i64 ctx,.int .i64 er,.int .i64 hint,.slice AD nD cD] 112)) fun e w'=>e= .returned (.int .i64 r)/\As (∃q,w'=(w2.alloc (.cells #[.int .i64 ctx,.int .i64 er,.int .i64 hint,.slice AD nD cD] 112)).drewN q)):=⟨fun r hr w2 AD nD cD k=>by
  refine(asks_index HP.out hal hna hfew k ctx er hint AD nD cD r hr).mono ?_
  rintro e w' ⟨rfl,q,hq⟩
  exact⟨rfl,⟨q,hq⟩⟩⟩
 have hna0:0<na:=by
  have:=(List.getElem?_eq_some_iff.1 ha).1
  omega
 obtain⟨ga,cA2,e9,_⟩:=own_form hao hna0
 cases e9
 have hi9:i<na:=by rw[<-hna];exact(List.getElem?_eq_some_iff.1 ha).1
 obtain⟨p,hpz⟩:∃p,L.az[i]?=some p:=⟨_,List.getElem?_eq_getElem (by rw[hal];exact hi9)⟩
 have hgp:w.cell? ⟨ga,i,none⟩=some (.pointer (some ⟨p,0,none⟩)):=by
  rw[hao.cellAt i (by omega)]
  simp[hpz,ptr]
 have hix:IdxR (askPr s.asks ctx) na i:=by
  rw[hctx] at hi
  obtain⟨_,_,_,_,h9⟩:=askIx_some hi
  rwa[hna] at h9
 have HIX2:=As.mk (HIX.out (i:Int) hix)
 have HGP:=As.mk (And.intro hpz hgp)
 have HI9:=As.mk ha
 rw[hz] at hz0
 subst hz0
 clear hix HIX hi
 rw[her] at he
 subst he
 obtain⟨kd,dva,fva,hba,_⟩:=h.aa i a p ha hpz
 have hpl:p<w.heap.size:=lt_of_block hba
 have hpm:p∈L.all:=Lay.mem.2 (by simp[List.mem_of_getElem? hpz])
 have hpp:p0≠p:=by
  have e1:=h.sep.az p (List.mem_of_getElem? hpz)
  have e2:=h.sep.js p0 (by rw[hjs];simp)
  intro e
  rw[<-e] at e1
  omega
 have hgm:L.gm=MV.ownBlock:=h.mq.2.1.symm
 have hl6:l.length<=1000000:=by rw[h.mq.2.2.length_eq];exact hml
 have hjk:=ok.jobs j (by rw[hj];simp)
 have hdd:=dWRep_dat data
 rw[hdat] at hdd
 obtain⟨t,ht⟩:∃t,took j dat=t:=⟨_,rfl⟩
 rw[Nat.add_zero] at hp
 have HP5:As (∀w4,Kp [] w w4->(∃κ',CoP U (w4.setCell ⟨p,8,none⟩ (.bool true)) L cf {s with asks:=s.asks.set i {a with answered:=true}} κ' VS VW (.slice (some ⟨qb,qo,none⟩) L.js.length qc) VD MV (.slice (some ⟨ga,0,none⟩) na cA) l)/\Kp L.all w (w4.setCell ⟨p,8,none⟩ (.bool true))/\(w4.setCell ⟨p,8,none⟩ (.bool true)).heap[p0]?=some (jobRun s.ended false false (.slice none 0 0) MV (wkind j) (okind j) cf.id (okey j) tv dv (.slice (some ⟨ga,0,none⟩) na cA))):=⟨fun w4 k=>by
  have h4:=h.kp (U2:=U) k (by simp) (fun x hx=> .inl hx)
  have hA:=(h4.aa i a p ha hpz).set8 (List.mem_append.2 (.inl hpm)) true
  have k5:Kp [p] w4 (w4.setCell ⟨p,8,none⟩ (.bool true)):=(Kp.refl _ _).setCell (.inl (by simp)) _
  have h5:=h4.ask hpz ha k5 hA rfl
  refine⟨⟨_,h5⟩,(k.mono (by simp)).trans k5 (fun x hx=> .inl (by simp at hx;rw[hx];exact hpm)),k5.blk (k.blk hp (by simp)) (by simpa using hpp)⟩⟩
 have HTK:As (∀w4 rb AD nD cD,HearA w W w4 rb ctx 0 hint AD nD cD dat->Calls Tryz.prog 49 #[.pointer (some ⟨p0,0,none⟩),.slice AD nD cD] (w4.setCell ⟨p,8,none⟩ (.bool true)) fun e w6=>∃AM nM cM,e= .returned (.int .i64 t.err)/\w6.cell? ⟨p0,13,none⟩=some (.slice (some ⟨ga,0,none⟩) na cA)/\w6.cell? ⟨p0,5,none⟩=some (.slice AM nM cM)/\As (TkB p0 s.ended MV l (wkind j) (okind j) cf.id (okey j) tv dv (.slice (some ⟨ga,0,none⟩) na cA) t (w4.setCell ⟨p,8,none⟩ (.bool true)) w6 (.slice AM nM cM))):=⟨fun w4 rb AD nD cD X=>by
  obtain⟨⟨κ',h5⟩,k5,hb5⟩:=HP5.out w4 X.kp
  have hln:=X.own.len
  have o5:Own 5 .u8 (w4.setCell ⟨p,8,none⟩ (.bool true)) w.heap.size (.slice AD nD cD) dat:=X.own.kp (S:=[p]) ((Kp.refl _ _).setCell (.inl (by simp)) _) (fun g hg=>by have:=X.own.2 g hg;simp;omega)
  have hr9:Rd (w4.setCell ⟨p,8,none⟩ (.bool true)) AD (iv .u8 dat):=(Own.rds (S:=[]) o5 (by simp)).rd
  have hn9:AD=none->cD=0:=by
   obtain⟨_,_,e9,_,_,_,hn9⟩:=own_rd o5.1
   cases e9
   exact hn9
  refine(takes_any j hjk p0 s.ended MV l cf.id (okey j) tv dv (.slice (some ⟨ga,0,none⟩) na cA) AD nD cD dat (w4.setCell ⟨p,8,none⟩ (.bool true)) hb5 h5.mq.1 (fun g hg e=> ?_) hl6 hln hr9 hn9 (hdd.2 hw) (by omega)).mono ?_
  ·have e1:=h.sep.gm g (by rw[hgm];exact hg)
   have e2:=h.sep.js p0 (by rw[hjs];simp)
   rw[e] at e1
   omega
  ·rw[ht]
   rintro e w6 T
   obtain⟨AM,nM,cM,rfl,c1,c2,T2⟩:=T.b
   exact⟨AM,nM,cM,rfl,c1,c2,⟨T2⟩⟩⟩
 have HX8:As (∀w4,Kp [] w w4->w4.cell? ⟨p,8,none⟩=some (.bool a.answered)/\w4.frozen? ⟨p,8,none⟩=false):=⟨fun w4 k=>by
  have hb4:=k.blk hba (by simp)
  exact⟨bkc hb4 8 rfl,blk_free hb4 8⟩⟩
 rw[hdat,ht] at hte
 have HCT:As (∀w4 w6 mv',Kp [] w w4->TkB p0 s.ended MV l (wkind j) (okind j) cf.id (okey j) tv dv (.slice (some ⟨ga,0,none⟩) na cA) t (w4.setCell ⟨p,8,none⟩ (.bool true)) w6 mv'->Calls Tryz.prog 50 #[.slice (some ⟨ga,0,none⟩) na cA,.func (.func 51) #[] #[]] w6 fun e w'=>e= .returned (.bool true)/\As (∃q,w'=w6.drewN q)):=⟨fun w4 w6 mv' k T=>by
  obtain⟨⟨κ',h5⟩,k5,hb5⟩:=HP5.out w4 k
  refine(asks_wait h5 (by show(s.asks.set i _).length=na;rw[List.length_set];exact hna) hfew hjs T true hwt).mono ?_
  rintro e w' ⟨rfl,q⟩
  exact⟨rfl,⟨q⟩⟩⟩
 rw[hte] at HTK
 have hk4:wkind j=2:=by
  apply (wkind_find hjk).2
  apply Classical.byContradiction
  intro h4
  have h1:=hk1 h4
  rw[waits_iff] at hwt
  obtain⟨k,q1,q2⟩:=hwt
  rw[List.length_set] at q1
  have hi0:i<s.asks.length:=(List.getElem?_eq_some_iff.1 ha).1
  obtain rfl:k=i:=by omega
  unfold waitPr at q2
  rw[show(s.asks.set k {a with answered:=true})[k]?=some {a with answered:=true} by simp[hi0]] at q2
  simp at q2
 have HFI:As (∀w4 w6 AM nM cM q,Kp [] w w4->TkB p0 s.ended MV l (wkind j) (okind j) cf.id (okey j) tv dv (.slice (some ⟨ga,0,none⟩) na cA) t (w4.setCell ⟨p,8,none⟩ (.bool true)) w6 (.slice AM nM cM)->TickPost U L cf ({s with asks:=s.asks.set i {a with answered:=true,ms:=t.ms}},[]) w (.returned (.slice none 0 0)) (w6.drewN q)):=⟨fun w4 w6 AM nM cM q k T=>by
  obtain⟨⟨κ',h5⟩,k5,hb5⟩:=HP5.out w4 k
  obtain⟨was,has,tv2,text,ms,q1,q2,q3,q4,q5,q6,q7⟩:=T
  obtain⟨rfl,rfl,rfl⟩:=q7 hk4
  obtain⟨_,_,_,rfl⟩:=q6 hte
  unfold jobRun at hb5 q1
  obtain⟨L',r1,r2,r3⟩:=h5.took hjs (show(s.asks.set i {a with answered:=true})[i]?=some {a with answered:=true} by simp[(List.getElem?_eq_some_iff.1 ha).1]) hms0 q5 hb5 q1 q3 q4
  have hset:(s.asks.set i {a with answered:=true}).set i {a with answered:=true,ms:=t.ms}=s.asks.set i {a with answered:=true,ms:=t.ms}:=List.set_set ..
  have r1':CoSt U w6 L' cf {s with asks:=(s.asks.set i {a with answered:=true}).set i {a with answered:=true,ms:=t.ms}}:=r1
  rw[hset] at r1'
  have k6:Kp L.all w w6:=k5.trans q5 (fun x hx=> .inl (by
   rcases List.mem_cons.1 hx with e|e
   ·rw[e];exact Lay.mem.2 (by simp[hjs])
   ·exact Lay.mem.2 (by rw[hgm];have:MV.ownBlock=some x:=by simpa using e
                        simp[this])))
  exact⟨L',_,rfl,r1'.drewN q,OutI.nil _ _,⟨r2.1,fun x hx=>(r2.2 x hx).imp id (fun e=>Nat.le_trans k5.size e)⟩,k6.drewN q⟩⟩
 rw[hdat,ht]
 have i0:decide ((i:Int)<0)=false:=decide_eq_false (by omega)
 have i1:(0:Int)<=(i:Int):=by omega
 have i2:(i:Int)<(na:Int):=by omega
 clear h hd hal hao hb hn hr hc hw hm hctx her hhint hdat hjl hm1 kW q0 hna HAQ ha hpz hgp hba hpm hl6 hjk hdd ht hml
 clear hgm hj hjs hte hwt ok hms0 hk1 hk4
 unfold msgObj at hW
 go_enter Tryz.func17,Tryz.ntmps17
 go_upto_region 1 with fail
 rw[<-hW]
 clear hW
 go_quiet (fail)
 go_wp2_with (first
  |(go_at_call 44;refine(HDR.out _ ((Kp.refl [] W).drewN _)).mono ?_;rintro e w2 ⟨AD,nD,cD,rfl,HD⟩;have HK2:As (Kp [] w w2):=⟨(HK.out.drewN _).trans HD.out.2 (by simp)⟩;obtain⟨z1,z2,z3,⟨z4,z5⟩,⟨z6,z7⟩,z8,z9⟩:=HL.out w2 HK2.out;have HI2:=As.mk (HIX2.out w2 AD nD cD HK2.out);have np1:¬p=w2.heap.size:=(by have:=HK2.out.size;omega);have np2:¬w2.heap.size=p:=(by have:=HK2.out.size;omega);clear HDR HL HIX2)
  |(go_at_call 45;refine HI2.out.mono ?_;rintro e w4 ⟨rfl,HQ⟩;have HH4:=As.mk (HearA.mk2 HK2.out (((Kp.refl [] W).drewN _).trans HD.out.2 (by simp)) HD.out.1 HQ.out (HK.out.size));have y13:=HH4.out.kp.cell (bkc hp 13 rfl) (by simp);have yga:=HH4.out.kp.cell HGP.out.2 (by simp);have r1:=bkc HH4.out.blk 1 rfl;have r2:=bkc HH4.out.blk 2 rfl;have r3:=bkc HH4.out.blk 3 rfl;obtain⟨x8,f8⟩:=HX8.out w4 HH4.out.kp;have HT4:=As.mk (HTK.out w4 _ _ _ _ HH4.out);clear HTK;clear HI2)
  |(go_at_call 49;refine HT4.out.mono ?_;rintro e w6 ⟨AM,nM,cM,rfl,u13,u5,HTB⟩;have HC6:=As.mk (HCT.out w4 w6 _ HH4.out.kp HTB.out);clear HCT;clear HT4)
  |(go_at_call 50;refine HC6.out.mono ?_;rintro e w7 ⟨rfl,HQ7⟩;clear HC6))
 go_ret
 obtain⟨q,rfl⟩:=HQ7.out
 exact HFI.out w4 w6 AM nM cM q HH4.out.kp HTB.out
end Go.Proofs.YtdiljpdohmeceaaGreat.co
