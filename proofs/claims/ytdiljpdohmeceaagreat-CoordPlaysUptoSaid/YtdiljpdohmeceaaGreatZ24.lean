/- Words and walks that this claim rests on: proved lemmas alone. -/
import Derived.Test.YtdiljpdohmeceaaGreatZ23
set_option maxHeartbeats 16000000
set_option maxRecDepth 100000
namespace Go.Proofs.YtdiljpdohmeceaaGreat.co
open Go.RowKit H O opk frame wir
theorem nodeIx_some{cf:Cfg}{sh:Nat}{x:Int}{at_:Nat}(h:nodeIx cf sh x=some at_):at_<(cf.shards.getD sh []).length/\IdxR (fun i=>decide (x=(cf.shards.getD sh []).getD i 0)) (cf.shards.getD sh []).length at_:=by
 unfold nodeIx at h
 obtain⟨ns,hns⟩:∃ns,cf.shards.getD sh []=ns:=⟨_,rfl⟩
 rw[hns] at h⊢
 rw[List.findIdx?_eq_some_iff_getElem] at h
 obtain⟨hi,h1,h2⟩:=h
 refine⟨hi,.inl ⟨at_,hi, ?_,fun k hk=> ?_,rfl⟩⟩
 ·simp only[decide_eq_true_eq] at h1⊢
  rw[<-h1]
  simp[List.getD,hi]
 ·have:=h2 k hk
  simp only[decide_eq_true_eq] at this
  have hk2:k<ns.length:=by omega
  simp only[decide_eq_false_iff_not]
  intro e
  apply this
  rw[e]
  simp[List.getD,hk2]
theorem nodeIx_none{cf:Cfg}{sh:Nat}{x:Int}(h:nodeIx cf sh x=none):IdxR (fun i=>decide (x=(cf.shards.getD sh []).getD i 0)) (cf.shards.getD sh []).length (-1):=by
 unfold nodeIx at h
 obtain⟨ns,hns⟩:∃ns,cf.shards.getD sh []=ns:=⟨_,rfl⟩
 rw[hns] at h⊢
 rw[List.findIdx?_eq_none_iff] at h
 refine .inr ⟨fun k hk=> ?_,rfl⟩
 have:=h _ (List.getElem_mem hk)
 simp only[decide_eq_false_iff_not] at this⊢
 intro e
 apply this
 rw[e]
 simp[List.getD,hk]
theorem CoP.hint{U:List Nat}{w w4:World}{L:Lay}{cf:Cfg}{s:Cs}{κ:Nat->Nat}{VS VW VJ VD MV AV:Value}{l:List (ByteArray×Int)}(h:CoP U w L cf s κ VS VW VJ VD MV AV l)(k:Kp [] w w4)(ok:CsOk cf s){i p:Nat}{a:Ask}(hp:L.az[i]?=some p)(ha:s.asks[i]?=some a)(at_:Nat)(q:Nat):
 CoSt U (((w4.drewN q).setCell ⟨L.gw,a.shard,none⟩ (.int .i64 (at_:Int))).setCell ⟨p,7,none⟩ (.bool true)) L cf {s with whom:=s.whom.set a.shard at_,asks:=s.asks.set i {a with hinted:=true}}/\Kp L.all w (((w4.drewN q).setCell ⟨L.gw,a.shard,none⟩ (.int .i64 (at_:Int))).setCell ⟨p,7,none⟩ (.bool true)):=by
 have aok:=ok.asks a (List.mem_of_getElem? ha)
 have hpm:p∈L.all:=Lay.mem.2 (by simp[List.mem_of_getElem? hp])
 have hgm:L.gw∈L.all:=Lay.mem.2 (by simp)
 have h4:=h.kp (U2:=U) (k.drewN q) (by simp) (fun x hx=> .inl hx)
 obtain⟨_,_,_,_,_,_,_,cw,_,_,_,_,_,hVW,_⟩:=h4.dest ok aok.shard
 obtain⟨h5,k5⟩:=h4.whom a.shard at_ cw hVW (by rw[ok.wlen];exact aok.shard) rfl
 have hA:=(h5.aa i a p ha hp).set7 (List.mem_append.2 (.inl hpm)) true
 have k6:Kp [p] ((w4.drewN q).setCell ⟨L.gw,a.shard,none⟩ (.int .i64 (at_:Int))) (((w4.drewN q).setCell ⟨L.gw,a.shard,none⟩ (.int .i64 (at_:Int))).setCell ⟨p,7,none⟩ (.bool true)):=(Kp.refl _ _).setCell (.inl (by simp)) _
 have h6:=h5.ask hp ha k6 hA rfl
 exact⟨⟨_,_,_,_,_,_,_,_,h6⟩,(((k.drewN q).mono (by simp)).trans k5 (fun x hx=> .inl (by simp at hx;rw[hx];exact hgm))).trans k6 (fun x hx=> .inl (by simp at hx;rw[hx];exact hpm))⟩
theorem hear_stay(U:List Nat)(w:World)(L:Lay)(cf:Cfg)(s:Cs)(j:Job)(jr:List Job)(frm:Int)(A:Option Addr)(n c:Nat)(data:List Int)(hC:CoSt U w L cf s)(hj:s.jobs=j::jr)(hf0:0<=frm)(hf7:frm<7)(hfew:s.asks.length<=8)(hn:data.length=n)(hr:Rd w A (iv .u8 data))(hc:n<=c)(hw:Wf data)(hm:n<=50000)(i:Nat)(a:Ask)(hi:askIx s.asks (dWRep data).1.ctx=some i)(ha:s.asks[i]?=some a)(hz0:(dWRep data).2=0)(ok:CsOk cf s)(he:(dWRep data).1.err=12\/(dWRep data).1.err=14\/(dWRep data).1.err=9\/(dWRep data).1.err=7\/((dWRep data).1.err=11/\(nodeIx cf a.shard (dWRep data).1.hint=none\/(dWRep data).1.hint=frm\/a.hinted=true))):
 Calls Tryz.prog 17 #[.pointer (some ⟨L.b,0,none⟩),.agg #[.int .i64 frm,.int .i64 (cf.id:Int),.slice A n c]] w (TickPost U L cf (s,[]) w):=by
 have HCS:=As.mk hC
 obtain⟨κ,VS,VW,VJ,VD,MV,AV,l,h⟩:=hC
 have HP:=As.mk h
 have hjl:=h.jl
 rw[hj] at hjl
 obtain⟨p0,ps,hjs⟩:∃p ps,L.js=p::ps:=by
  cases e:L.js with
  |nil=>rw[e] at hjl;simp at hjl
  |cons p ps=>exact⟨p,ps,rfl⟩
 obtain⟨qb,qo,qc,rfl,q0⟩:=h.jq.cell (i:=0) (p:=p0) (by rw[hjs];rfl)
 obtain⟨m,hm1⟩:∃m,L.js.length=m+1:=⟨ps.length,by rw[hjs];rfl⟩
 have hd:=h.hd
 rw[hm1] at hd
 rw[Nat.add_zero] at q0
 unfold ptr at q0
 obtain⟨tv,dv,hp,_,_⟩:=h.ja 0 j p0 (by rw[hj];rfl) (by rw[hjs];rfl)
 rw[if_pos rfl,if_pos rfl] at hp
 obtain⟨na,hna⟩:∃na,s.asks.length=na:=⟨_,rfl⟩
 rw[hna] at hfew
 have hal:L.az.length=na:=by rw[h.al,hna]
 have hao:=h.aq.1
 rw[hal] at hao
 obtain⟨AA,cA,rfl,_⟩:=own_rd hao
 have HAQ:=As.mk hao
 obtain⟨W,hW⟩:∃W,W=w.alloc (msgObj frm (cf.id:Int) A n c):=⟨_,rfl⟩
 have kW:Kp [] w W:=by rw[hW];exact(Kp.refl [] w).alloc _
 have hb:W.heap[w.heap.size]?=some (msgObj frm (cf.id:Int) A n c):=by rw[hW];exact heap_alloc_new w _
 have m0:W.cell? ⟨w.heap.size,0,none⟩=some (.int .i64 frm):=bkc hb 0 rfl
 have m1:W.cell? ⟨w.heap.size,1,none⟩=some (.int .i64 (cf.id:Int)):=bkc hb 1 rfl
 have m2:W.cell? ⟨w.heap.size,2,none⟩=some (.slice A n c):=bkc hb 2 rfl
 have HMB:=As.mk hb
 have b0:=kW.cell (bkc hd 0 rfl) (by simp)
 have b5:=kW.cell (bkc hd 5 rfl) (by simp)
 have HK:=As.mk kW
 have e1:((cf.id:Int) !=(cf.id:Int))=false:=by simp
 have e2:decide (frm<0)=false:=decide_eq_false (by omega)
 have e3:decide (7<=frm)=false:=decide_eq_false (by omega)
 have e4:((m:Int)+1==0)=false:=by simp;omega
 obtain⟨ctx,hctx⟩:∃x,(dWRep data).1.ctx=x:=⟨_,rfl⟩
 obtain⟨er,her⟩:∃x,(dWRep data).1.err=x:=⟨_,rfl⟩
 obtain⟨hint,hhint⟩:∃x,(dWRep data).1.hint=x:=⟨_,rfl⟩
 obtain⟨dat,hdat⟩:∃x,(dWRep data).1.data=x:=⟨_,rfl⟩
 obtain⟨z,hz⟩:∃x,(dWRep data).2=x:=⟨_,rfl⟩
 have HDR:As (∀wX,Kp [] W wX->Calls Tryz.prog 44 #[.slice A n c] wX fun e w'=>∃AD nD cD,e= .returned (.tuple #[.agg #[.int .i64 ctx,.int .i64 er,.int .i64 hint,.slice AD nD cD],.int .i64 z])/\As (Own 5 .u8 w' wX.heap.size (.slice AD nD cD) dat/\Kp [] wX w')):=⟨fun wX kX=>by
  refine(decodeReply_any A n c data wX hn ((kW.trans kX (by simp)).rd_new hr (by simp)) hc hw (by omega)).mono ?_
  rintro e w' ⟨AD,nD,cD,rfl,o,k⟩
  rw[hctx,her,hhint,hz]
  rw[hdat] at o
  exact⟨AD,nD,cD,rfl,⟨o,k⟩⟩⟩
 have HL:As (∀w2,Kp [] w w2->w2.cell? ⟨L.b,5,none⟩=some (.slice (some ⟨qb,qo,none⟩) (m+1) qc)/\w2.cell? ⟨qb,qo,none⟩=some (.pointer (some ⟨p0,0,none⟩))/\w2.cell? ⟨p0,13,none⟩=some (.slice AA na cA)/\(L.b<w2.heap.size/\¬L.b=w2.heap.size)/\(qb<w2.heap.size/\¬qb=w2.heap.size)/\p0<w2.heap.size/\¬p0=w2.heap.size):=⟨fun w2 k=>by
  have a1:=k.cell (bkc hd 5 rfl) (by simp)
  have a2:=k.cell q0 (by simp)
  have a3:=k.cell (bkc hp 13 rfl) (by simp)
  have s1:=World.block_lt_of_cell? w2 _ a1
  have s2:=World.block_lt_of_cell? w2 _ a2
  have s3:=World.block_lt_of_cell? w2 _ a3
  simp only at s1 s2 s3
  exact⟨a1,a2,a3,⟨s1,by omega⟩,⟨s2,by omega⟩,s3,by omega⟩⟩
 have HIX:As (∀r,IdxR (askPr s.asks ctx) na r->∀w2 AD nD cD,Kp [] w w2->Calls Tryz.prog 45 #[.slice AA na cA,.func (.func 46) #[] #[.pointer (some ⟨w2.heap.size,0,none⟩)]] (w2.alloc (.cells #[.int .i64 ctx,.int .i64 er,.int .i64 hint,.slice AD nD cD] 112)) fun e w'=>e= .returned (.int .i64 r)/\As (∃q,w'=(w2.alloc (.cells #[.int .i64 ctx,.int .i64 er,.int .i64 hint,.slice AD nD cD] 112)).drewN q)):=⟨fun r hr w2 AD nD cD k=>by
  refine(asks_index HP.out hal hna hfew k ctx er hint AD nD cD r hr).mono ?_
  rintro e w' ⟨rfl,q,hq⟩
  exact⟨rfl,⟨q,hq⟩⟩⟩
 have hna0:0<na:=by
  have:=(List.getElem?_eq_some_iff.1 ha).1
  omega
 obtain⟨ga,cA2,e9,_⟩:=own_form hao hna0
 cases e9
 have hi9:i<na:=by rw[<-hna];exact(List.getElem?_eq_some_iff.1 ha).1
 obtain⟨p,hpz⟩:∃p,L.az[i]?=some p:=⟨_,List.getElem?_eq_getElem (by rw[hal];exact hi9)⟩
 have hgp:w.cell? ⟨ga,i,none⟩=some (.pointer (some ⟨p,0,none⟩)):=by
  rw[hao.cellAt i (by omega)]
  simp[hpz,ptr]
 have hix:IdxR (askPr s.asks ctx) na i:=by
  rw[hctx] at hi
  obtain⟨_,_,_,_,h9⟩:=askIx_some hi
  rwa[hna] at h9
 have HIX2:=As.mk (HIX.out (i:Int) hix)
 have HGP:=As.mk (And.intro hpz hgp)
 have HI9:=As.mk ha
 rw[hz] at hz0
 subst hz0
 clear hix HIX hi
 have aok:=ok.asks a (List.mem_of_getElem? ha)
 obtain⟨bS,oS,cS,Ab,Ao,nj,cj,cw,wi,rfl,hbS,s0,hAb,rfl,w1',fw1,e2',hlt2,h7',e7,s2⟩:=h.dest ok aok.shard
 obtain⟨kd,dva,fva,hba,_⟩:=h.aa i a p ha hpz
 have HC3:As (∀w4,Kp [] w w4->w4.cell? ⟨L.b,3,none⟩=some (.slice (some ⟨bS,oS,none⟩) cf.shards.length cS)/\w4.cell? ⟨L.b,4,none⟩=some (.slice (some ⟨L.gw,0,none⟩) s.whom.length cw)/\w4.cell? ⟨p,2,none⟩=some (.int .i64 (a.shard:Int))/\w4.cell? ⟨p,7,none⟩=some (.bool a.hinted)/\w4.frozen? ⟨p,7,none⟩=false/\w4.cell? ⟨bS,oS+a.shard,none⟩=some (.slice (some ⟨Ab,Ao,none⟩) nj cj)/\w4.cell? ⟨L.gw,a.shard,none⟩=some (.int .i64 (wi:Int))/\w4.frozen? ⟨L.gw,a.shard,none⟩=false):=⟨fun w4 k=>by
  have hb4:=k.blk hba (by simp)
  have ho4:=k.own h.wh.1 (by simp)
  refine⟨k.cell (bkc hd 3 rfl) (by simp),k.cell (bkc hd 4 rfl) (by simp),bkc hb4 2 rfl,bkc hb4 7 rfl,blk_free hb4 7,k.cell s0 (by simp),k.cell w1' (by simp), ?_⟩
  exact ho4.frozenAt a.shard⟩
 have HIN:As (∀r,IdxR (fun i=>decide (hint=(cf.shards.getD a.shard []).getD i 0)) nj r->∀wX,Kp [] w wX->Calls Tryz.prog 47 #[.slice (some ⟨Ab,Ao,none⟩) nj cj,.int .i64 hint] wX fun e w'=>e= .returned (.int .i64 r)/\w'=wX):=⟨fun r hr wX k=>by
  refine index_any _ nj cj (cf.shards.getD a.shard []) hint r wX e7 (by omega) (fun jj v hv=> ?_) hr
  have hjj:jj<nj:=by
   have:=(List.getElem?_eq_some_iff.1 hv).1
   rw[iv_len,e7] at this
   exact this
  refine⟨_,rfl, ?_⟩
  rw[Addr.add_lit,k.cell (s2 jj hjj) (by simp)]
  rw[<-hv,iv_get _ _ _ (by rw[e7];exact hjj)]
  have hgd:∀(l:List Int) (h:jj<l.length),l.getD jj 0=l[jj]:=fun l h=>by simp[List.getD,h]
  rw[hgd _ (by rw[e7];exact hjj)]⟩
 have t0:(0:Int)<=(a.shard:Int):=by omega
 have t1:(a.shard:Int)<(cf.shards.length:Int):=by have:=aok.shard;omega
 have t2:(a.shard:Int)<(s.whom.length:Int):=by have:=aok.shard;have:=ok.wlen;omega
 rw[her,hhint] at he
 obtain⟨r,hr,hrn⟩:∃r,IdxR (fun i=>decide (hint=(cf.shards.getD a.shard []).getD i 0)) nj r/\(r= -1\/((∃k:Nat,r=(k:Int))/\nodeIx cf a.shard hint≠none)):=by
  cases e:nodeIx cf a.shard hint with
  |none=>exact⟨-1,by rw[<-e7];exact nodeIx_none e,.inl rfl⟩
  |some k=>exact⟨(k:Int),by rw[<-e7];exact(nodeIx_some e).2,.inr ⟨⟨k,rfl⟩,by simp⟩⟩
 have HINR:=As.mk (HIN.out r hr)
 have i0:decide ((i:Int)<0)=false:=decide_eq_false (by omega)
 have i1:(0:Int)<=(i:Int):=by omega
 have i2:(i:Int)<(na:Int):=by omega
 clear h hd hal hao hb hn hr hc hw hm hctx her hhint hdat hjl hm1 kW q0 hj hjs hna HAQ ha hpz hgp aok s0 hbS hAb w1' fw1 e2' hlt2 h7' e7 s2 hba
 clear HIN hr
 rcases he with he|he|he|he|⟨he,hx⟩
 ·subst he
  clear hrn
  unfold msgObj at hW
  go_enter Tryz.func17,Tryz.ntmps17
  go_upto_region 1 with fail
  rw[<-hW]
  clear hW
  go_quiet (fail)
  go_upto_region 18 with(first
   |(go_at_call 44;refine(HDR.out _ ((Kp.refl [] W).drewN _)).mono ?_;rintro e w2 ⟨AD,nD,cD,rfl,HD⟩;have HK2:As (Kp [] w w2):=⟨(HK.out.drewN _).trans HD.out.2 (by simp)⟩;obtain⟨z1,z2,z3,⟨z4,z5⟩,⟨z6,z7⟩,z8,z9⟩:=HL.out w2 HK2.out;have HI2:=As.mk (HIX2.out w2 AD nD cD HK2.out);clear HDR HL HIX2)
   |(go_at_call 45;refine HI2.out.mono ?_;rintro e w4 ⟨rfl,HQ⟩;have HH4:=As.mk (HearA.mk2 HK2.out (((Kp.refl [] W).drewN _).trans HD.out.2 (by simp)) HD.out.1 HQ.out (HK.out.size));have y13:=HH4.out.kp.cell (bkc hp 13 rfl) (by simp);have yga:=HH4.out.kp.cell HGP.out.2 (by simp);have r1:=bkc HH4.out.blk 1 rfl;have r2:=bkc HH4.out.blk 2 rfl;have r3:=bkc HH4.out.blk 3 rfl;obtain⟨g3,g4,g5,g6,g7,g8,g9,g10⟩:=HC3.out w4 HH4.out.kp;have mm0:=HH4.out.kp2.cell m0 (by simp);clear HI2))
  go_quiet ((go_at_call 47;refine Calls.quiet_of_same (HINR.out _ (by first|exact HH4.out.kp|exact HH4.out.kp.drewN _))))
  go_wp2_with fail
  go_ret
  exact TickPost.nothing HCS.out (HH4.out.kp.drewN _)
 ·subst he
  clear hrn
  unfold msgObj at hW
  go_enter Tryz.func17,Tryz.ntmps17
  go_upto_region 1 with fail
  rw[<-hW]
  clear hW
  go_quiet (fail)
  go_upto_region 18 with(first
   |(go_at_call 44;refine(HDR.out _ ((Kp.refl [] W).drewN _)).mono ?_;rintro e w2 ⟨AD,nD,cD,rfl,HD⟩;have HK2:As (Kp [] w w2):=⟨(HK.out.drewN _).trans HD.out.2 (by simp)⟩;obtain⟨z1,z2,z3,⟨z4,z5⟩,⟨z6,z7⟩,z8,z9⟩:=HL.out w2 HK2.out;have HI2:=As.mk (HIX2.out w2 AD nD cD HK2.out);clear HDR HL HIX2)
   |(go_at_call 45;refine HI2.out.mono ?_;rintro e w4 ⟨rfl,HQ⟩;have HH4:=As.mk (HearA.mk2 HK2.out (((Kp.refl [] W).drewN _).trans HD.out.2 (by simp)) HD.out.1 HQ.out (HK.out.size));have y13:=HH4.out.kp.cell (bkc hp 13 rfl) (by simp);have yga:=HH4.out.kp.cell HGP.out.2 (by simp);have r1:=bkc HH4.out.blk 1 rfl;have r2:=bkc HH4.out.blk 2 rfl;have r3:=bkc HH4.out.blk 3 rfl;obtain⟨g3,g4,g5,g6,g7,g8,g9,g10⟩:=HC3.out w4 HH4.out.kp;have mm0:=HH4.out.kp2.cell m0 (by simp);clear HI2))
  go_quiet ((go_at_call 47;refine Calls.quiet_of_same (HINR.out _ (by first|exact HH4.out.kp|exact HH4.out.kp.drewN _))))
  go_wp2_with fail
  go_ret
  exact TickPost.nothing HCS.out (HH4.out.kp.drewN _)
 ·subst he
  clear hrn
  unfold msgObj at hW
  go_enter Tryz.func17,Tryz.ntmps17
  go_upto_region 1 with fail
  rw[<-hW]
  clear hW
  go_quiet (fail)
  go_upto_region 18 with(first
   |(go_at_call 44;refine(HDR.out _ ((Kp.refl [] W).drewN _)).mono ?_;rintro e w2 ⟨AD,nD,cD,rfl,HD⟩;have HK2:As (Kp [] w w2):=⟨(HK.out.drewN _).trans HD.out.2 (by simp)⟩;obtain⟨z1,z2,z3,⟨z4,z5⟩,⟨z6,z7⟩,z8,z9⟩:=HL.out w2 HK2.out;have HI2:=As.mk (HIX2.out w2 AD nD cD HK2.out);clear HDR HL HIX2)
   |(go_at_call 45;refine HI2.out.mono ?_;rintro e w4 ⟨rfl,HQ⟩;have HH4:=As.mk (HearA.mk2 HK2.out (((Kp.refl [] W).drewN _).trans HD.out.2 (by simp)) HD.out.1 HQ.out (HK.out.size));have y13:=HH4.out.kp.cell (bkc hp 13 rfl) (by simp);have yga:=HH4.out.kp.cell HGP.out.2 (by simp);have r1:=bkc HH4.out.blk 1 rfl;have r2:=bkc HH4.out.blk 2 rfl;have r3:=bkc HH4.out.blk 3 rfl;obtain⟨g3,g4,g5,g6,g7,g8,g9,g10⟩:=HC3.out w4 HH4.out.kp;have mm0:=HH4.out.kp2.cell m0 (by simp);clear HI2))
  go_quiet ((go_at_call 47;refine Calls.quiet_of_same (HINR.out _ (by first|exact HH4.out.kp|exact HH4.out.kp.drewN _))))
  go_wp2_with fail
  go_ret
  exact TickPost.nothing HCS.out (HH4.out.kp.drewN _)
 ·subst he
  clear hrn
  unfold msgObj at hW
  go_enter Tryz.func17,Tryz.ntmps17
  go_upto_region 1 with fail
  rw[<-hW]
  clear hW
  go_quiet (fail)
  go_upto_region 18 with(first
   |(go_at_call 44;refine(HDR.out _ ((Kp.refl [] W).drewN _)).mono ?_;rintro e w2 ⟨AD,nD,cD,rfl,HD⟩;have HK2:As (Kp [] w w2):=⟨(HK.out.drewN _).trans HD.out.2 (by simp)⟩;obtain⟨z1,z2,z3,⟨z4,z5⟩,⟨z6,z7⟩,z8,z9⟩:=HL.out w2 HK2.out;have HI2:=As.mk (HIX2.out w2 AD nD cD HK2.out);clear HDR HL HIX2)
   |(go_at_call 45;refine HI2.out.mono ?_;rintro e w4 ⟨rfl,HQ⟩;have HH4:=As.mk (HearA.mk2 HK2.out (((Kp.refl [] W).drewN _).trans HD.out.2 (by simp)) HD.out.1 HQ.out (HK.out.size));have y13:=HH4.out.kp.cell (bkc hp 13 rfl) (by simp);have yga:=HH4.out.kp.cell HGP.out.2 (by simp);have r1:=bkc HH4.out.blk 1 rfl;have r2:=bkc HH4.out.blk 2 rfl;have r3:=bkc HH4.out.blk 3 rfl;obtain⟨g3,g4,g5,g6,g7,g8,g9,g10⟩:=HC3.out w4 HH4.out.kp;have mm0:=HH4.out.kp2.cell m0 (by simp);clear HI2))
  go_quiet ((go_at_call 47;refine Calls.quiet_of_same (HINR.out _ (by first|exact HH4.out.kp|exact HH4.out.kp.drewN _))))
  go_wp2_with fail
  go_ret
  exact TickPost.nothing HCS.out (HH4.out.kp.drewN _)
 ·subst he
  rcases hrn with rfl|⟨⟨k,rfl⟩,hk⟩
  ·clear hx
   unfold msgObj at hW
   go_enter Tryz.func17,Tryz.ntmps17
   go_upto_region 1 with fail
   rw[<-hW]
   clear hW
   go_quiet (fail)
   go_upto_region 18 with(first
    |(go_at_call 44;refine(HDR.out _ ((Kp.refl [] W).drewN _)).mono ?_;rintro e w2 ⟨AD,nD,cD,rfl,HD⟩;have HK2:As (Kp [] w w2):=⟨(HK.out.drewN _).trans HD.out.2 (by simp)⟩;obtain⟨z1,z2,z3,⟨z4,z5⟩,⟨z6,z7⟩,z8,z9⟩:=HL.out w2 HK2.out;have HI2:=As.mk (HIX2.out w2 AD nD cD HK2.out);clear HDR HL HIX2)
    |(go_at_call 45;refine HI2.out.mono ?_;rintro e w4 ⟨rfl,HQ⟩;have HH4:=As.mk (HearA.mk2 HK2.out (((Kp.refl [] W).drewN _).trans HD.out.2 (by simp)) HD.out.1 HQ.out (HK.out.size));have y13:=HH4.out.kp.cell (bkc hp 13 rfl) (by simp);have yga:=HH4.out.kp.cell HGP.out.2 (by simp);have r1:=bkc HH4.out.blk 1 rfl;have r2:=bkc HH4.out.blk 2 rfl;have r3:=bkc HH4.out.blk 3 rfl;obtain⟨g3,g4,g5,g6,g7,g8,g9,g10⟩:=HC3.out w4 HH4.out.kp;have mm0:=HH4.out.kp2.cell m0 (by simp);clear HI2))
   go_quiet ((go_at_call 47;refine Calls.quiet_of_same (HINR.out _ (by first|exact HH4.out.kp|exact HH4.out.kp.drewN _))))
   go_wp2_with fail
   go_ret
   exact TickPost.nothing HCS.out (HH4.out.kp.drewN _)
  ·have k0:decide ((k:Int)<0)=false:=decide_eq_false (by omega)
   rcases hx with hx|hx|hx
   ·exact absurd hx hk
   ·subst hx
    clear hk
    have kk:(hint==hint)=true:=by simp
    unfold msgObj at hW
    go_enter Tryz.func17,Tryz.ntmps17
    go_upto_region 1 with fail
    rw[<-hW]
    clear hW
    go_quiet (fail)
    go_upto_region 18 with(first
     |(go_at_call 44;refine(HDR.out _ ((Kp.refl [] W).drewN _)).mono ?_;rintro e w2 ⟨AD,nD,cD,rfl,HD⟩;have HK2:As (Kp [] w w2):=⟨(HK.out.drewN _).trans HD.out.2 (by simp)⟩;obtain⟨z1,z2,z3,⟨z4,z5⟩,⟨z6,z7⟩,z8,z9⟩:=HL.out w2 HK2.out;have HI2:=As.mk (HIX2.out w2 AD nD cD HK2.out);clear HDR HL HIX2)
     |(go_at_call 45;refine HI2.out.mono ?_;rintro e w4 ⟨rfl,HQ⟩;have HH4:=As.mk (HearA.mk2 HK2.out (((Kp.refl [] W).drewN _).trans HD.out.2 (by simp)) HD.out.1 HQ.out (HK.out.size));have y13:=HH4.out.kp.cell (bkc hp 13 rfl) (by simp);have yga:=HH4.out.kp.cell HGP.out.2 (by simp);have r1:=bkc HH4.out.blk 1 rfl;have r2:=bkc HH4.out.blk 2 rfl;have r3:=bkc HH4.out.blk 3 rfl;obtain⟨g3,g4,g5,g6,g7,g8,g9,g10⟩:=HC3.out w4 HH4.out.kp;have mm0:=HH4.out.kp2.cell m0 (by simp);clear HI2))
    go_quiet ((go_at_call 47;refine Calls.quiet_of_same (HINR.out _ (by first|exact HH4.out.kp|exact HH4.out.kp.drewN _))))
    go_wp2_with fail
    go_ret
    exact TickPost.nothing HCS.out (HH4.out.kp.drewN _)
   ·clear hk
    rw[hx] at HC3
    by_cases hf:hint=frm
    ·subst hf
     have kk:(hint==hint)=true:=by simp
     unfold msgObj at hW
     go_enter Tryz.func17,Tryz.ntmps17
     go_upto_region 1 with fail
     rw[<-hW]
     clear hW
     go_quiet (fail)
     go_upto_region 18 with(first
      |(go_at_call 44;refine(HDR.out _ ((Kp.refl [] W).drewN _)).mono ?_;rintro e w2 ⟨AD,nD,cD,rfl,HD⟩;have HK2:As (Kp [] w w2):=⟨(HK.out.drewN _).trans HD.out.2 (by simp)⟩;obtain⟨z1,z2,z3,⟨z4,z5⟩,⟨z6,z7⟩,z8,z9⟩:=HL.out w2 HK2.out;have HI2:=As.mk (HIX2.out w2 AD nD cD HK2.out);clear HDR HL HIX2)
      |(go_at_call 45;refine HI2.out.mono ?_;rintro e w4 ⟨rfl,HQ⟩;have HH4:=As.mk (HearA.mk2 HK2.out (((Kp.refl [] W).drewN _).trans HD.out.2 (by simp)) HD.out.1 HQ.out (HK.out.size));have y13:=HH4.out.kp.cell (bkc hp 13 rfl) (by simp);have yga:=HH4.out.kp.cell HGP.out.2 (by simp);have r1:=bkc HH4.out.blk 1 rfl;have r2:=bkc HH4.out.blk 2 rfl;have r3:=bkc HH4.out.blk 3 rfl;obtain⟨g3,g4,g5,g6,g7,g8,g9,g10⟩:=HC3.out w4 HH4.out.kp;have mm0:=HH4.out.kp2.cell m0 (by simp);clear HI2))
     go_quiet ((go_at_call 47;refine Calls.quiet_of_same (HINR.out _ (by first|exact HH4.out.kp|exact HH4.out.kp.drewN _))))
     go_wp2_with fail
     go_ret
     exact TickPost.nothing HCS.out (HH4.out.kp.drewN _)
    ·have kk:(hint==frm)=false:=by simpa using hf
     unfold msgObj at hW
     go_enter Tryz.func17,Tryz.ntmps17
     go_upto_region 1 with fail
     rw[<-hW]
     clear hW
     go_quiet (fail)
     go_upto_region 18 with(first
      |(go_at_call 44;refine(HDR.out _ ((Kp.refl [] W).drewN _)).mono ?_;rintro e w2 ⟨AD,nD,cD,rfl,HD⟩;have HK2:As (Kp [] w w2):=⟨(HK.out.drewN _).trans HD.out.2 (by simp)⟩;obtain⟨z1,z2,z3,⟨z4,z5⟩,⟨z6,z7⟩,z8,z9⟩:=HL.out w2 HK2.out;have HI2:=As.mk (HIX2.out w2 AD nD cD HK2.out);clear HDR HL HIX2)
      |(go_at_call 45;refine HI2.out.mono ?_;rintro e w4 ⟨rfl,HQ⟩;have HH4:=As.mk (HearA.mk2 HK2.out (((Kp.refl [] W).drewN _).trans HD.out.2 (by simp)) HD.out.1 HQ.out (HK.out.size));have y13:=HH4.out.kp.cell (bkc hp 13 rfl) (by simp);have yga:=HH4.out.kp.cell HGP.out.2 (by simp);have r1:=bkc HH4.out.blk 1 rfl;have r2:=bkc HH4.out.blk 2 rfl;have r3:=bkc HH4.out.blk 3 rfl;obtain⟨g3,g4,g5,g6,g7,g8,g9,g10⟩:=HC3.out w4 HH4.out.kp;have mm0:=HH4.out.kp2.cell m0 (by simp);clear HI2))
     go_quiet ((go_at_call 47;refine Calls.quiet_of_same (HINR.out _ (by first|exact HH4.out.kp|exact HH4.out.kp.drewN _))))
     go_wp2_with fail
     go_ret
     exact TickPost.nothing HCS.out (HH4.out.kp.drewN _)
end Go.Proofs.YtdiljpdohmeceaaGreat.co
