/- Words and walks that this claim rests on: proved lemmas alone. -/
import Derived.Test.YtdiljpdohmeceaaGreatZ35
import Derived.Test.YtdiljpdohmeceaaGreatZ36
set_option maxHeartbeats 16000000
set_option maxRecDepth 100000
namespace Go.Proofs.YtdiljpdohmeceaaGreat.co
open Go.RowKit H O opk frame wir
open cr (RLay RsSt RNewJ RGrew Dis)
theorem WayI.at{S:List Nat}{w:World}{v:Value}{ms:List Msg}(h:WayI S w v ms){i:Nat}{m:Msg}(hi:ms[i]?=some m):∃b o c A cd,v= .slice (some ⟨b,o,none⟩) ms.length c/\ms.length<=c/\w.cell? ⟨b,o+i*3,none⟩=some (.int .i64 m.frm)/\w.cell? ⟨b,o+(i*3+1),none⟩=some (.int .i64 m.dst)/\w.cell? ⟨b,o+(i*3+2),none⟩=some (.slice A m.data.length cd)/\BSl (v.ownBlock.toList++S) w (.slice A m.data.length cd) m.data:=by
 obtain⟨vs,h1,h2,h3⟩:=h
 have hl:=(List.getElem?_eq_some_iff.1 hi).1
 obtain⟨dv,g1,g2,g3,g4⟩:=h3.get hi
 obtain⟨b,o,c,e,hc,hcell⟩:=h1.cell (by omega)
 obtain⟨A,cd,rfl,_⟩:=id g4
 exact⟨b,o,c,A,cd,e,hc,hcell _ _ g1,hcell _ _ g2,hcell _ _ g3,g4⟩
theorem wayN_nil{ms:List Msg}(h:ms.length<=60):wayN ms []=ms:=by rw[wayN,List.append_nil,if_neg (by omega)]
def replyS(cf:Cfg)(s:Cs)(m:Msg)(er ht:Int)(xs:List Int):Cs×List Msg:=
 if wrOk (ref22.dWReq m.data).1.err er ht=true then co.hear cf s ⟨m.dst,m.frm,fEnc (pay 114 [(ref22.dWReq m.data).1.err,er,ht+1] xs)⟩ else(s,[])
theorem does_reply(U:List Nat)(w:World)(P:Nat)(L:Lay)(M:RLay)(cf:Cfg)(s:Cs)(WV:Value)(ms:List Msg)(k:Nat)(an er ht wh fr:Int)(key:ByteArray)(BV MV:Value)(m:Msg)(i:Nat)(h:PairW U w P L M cf s WV ms)(inv:PInv cf s k)(hk:k<=10000)(h2:cf.shards.length<=2)(hms:ms.length<=60)(hfr:∀m∈ms,FrOk m.data)(hi:ms[i]?=some m)(hx:(bits BinOp.and IntKind.i64 an 65535).tmod (ms.length:Int)=(i:Int))(xs:List Int)(hxw:Wf xs)(hxl:xs.length<=39000)
 (HD:∀wX,Kp [] w wX->Calls Tryz.prog 67 #[.agg #[.int .i64 6,.int .i64 an,.int .i64 er,.int .i64 ht,.int .i64 wh,.int .i64 fr,.string key,BV,MV]] wX fun e w'=>∃A n c,e= .returned (.slice A n c)/\As (Rd w' A (iv .u8 xs)/\(A=none->c=0)/\xs.length=n/\Kp [] wX w')):
 Calls Tryz.prog 20 #[.pointer (some ⟨P,0,none⟩),.agg #[.int .i64 6,.int .i64 an,.int .i64 er,.int .i64 ht,.int .i64 wh,.int .i64 fr,.string key,BV,MV]] w fun e w'=>e= .returned (.bool true)/\Played U P L M cf WV (replyS cf s m (bits BinOp.and IntKind.i64 er 15) ht xs).1 (wayN ms (replyS cf s m (bits BinOp.and IntKind.i64 er 15) ht xs).2) w w':=by
 obtain⟨W,hW⟩:∃W,w.alloc (actObj 6 an er ht wh fr key BV MV)=W:=⟨_,rfl⟩
 have kW:Kp [] w W:=by rw[<-hW];exact(Kp.refl [] w).alloc _
 obtain⟨mb,hmb⟩:∃mb,w.heap.size=mb:=⟨_,rfl⟩
 have hb:W.heap[mb]?=some (actObj 6 an er ht wh fr key BV MV):=by rw[<-hW,<-hmb];exact heap_alloc_new w _
 have a0:=bkc hb 0 rfl
 have a1:W.cell? ⟨mb,1,none⟩=some (.int .i64 an):=bkc hb 1 rfl
 have hPW:=h.prs.kp (U2:=U) kW (by simp) (by simp) (fun x hx=> .inl hx)
 obtain⟨b,o,c,A,cd,rfl,hc,w0,w1,w2,hbs⟩:=hPW.way.at hi
 obtain⟨n,hn⟩:∃n,ms.length=n:=⟨_,rfl⟩
 have p2:=bkc hPW.pr.hd 2 rfl
 have hil:=(List.getElem?_eq_some_iff.1 hi).1
 rw[hn] at p2 hc hil hx
 have n0:¬(n:Int)=0:=by omega
 have n0b:((n:Int)==0)=false:=by simpa using n0
 have n00:¬n=0:=by omega
 have j0:(0:Int)<=(i:Int):=by omega
 have j1:(i:Int)<(n:Int):=by omega
 have KX:As (∀wX,Kp [] W wX->wX.cell? ⟨P,2,none⟩=some (.slice (some ⟨b,o,none⟩) n c)/\wX.cell? ⟨mb,1,none⟩=some (.int .i64 an)/\wX.cell? ⟨b,o+i*3,none⟩=some (.int .i64 m.frm)/\wX.cell? ⟨b,o+i*3+1,none⟩=some (.int .i64 m.dst)/\wX.cell? ⟨b,o+i*3+2,none⟩=some (.slice A m.data.length cd)):=⟨fun wX kX=>
  ⟨kX.cell p2 (by simp),kX.cell a1 (by simp),kX.cell w0 (by simp),kX.cell w1 (by simp),kX.cell w2 (by simp)⟩⟩
 have HD:=As.mk HD
 have HH:=As.mk h
 obtain⟨T,hT⟩:∃T,replyS cf s m (bits BinOp.and IntKind.i64 er 15) ht xs=T:=⟨_,rfl⟩
 rw[hT]
 have HT:=As.mk hT
 have HBK:=As.mk hb
 clear hT
 have HFR:=As.mk (hfr m (List.mem_of_getElem? hi))
 obtain⟨frm,dst,data⟩:=m
 obtain⟨nd,hnd⟩:∃nd,data.length=nd:=⟨_,rfl⟩
 rw[show(({frm:=frm,dst:=dst,data:=data}:Msg).data.length)=nd from hnd] at KX
 obtain⟨q0,hq0⟩:∃q,(ref22.dWReq data).1.ctx=q:=⟨_,rfl⟩
 obtain⟨q1,hq1⟩:∃q,(ref22.dWReq data).1.err=q:=⟨_,rfl⟩
 obtain⟨q2,hq2⟩:∃q,(ref22.dWReq data).1.hint=q:=⟨_,rfl⟩
 have HDQ:As (∀wX,Kp [] W wX->Calls Tryz.prog 12 #[.slice A nd cd] wX fun e w'=>∃Aq nq cq,e= .returned (.tuple #[.agg #[.int .i64 q0,.int .i64 q1,.int .i64 q2,.slice Aq nq cq],.int .i64 0])/\As (Kp [] wX w')):=⟨fun wX kX=>by
  obtain⟨f1,f2,f3⟩:=HFR.out
  obtain⟨A9,c9,e9,rr,hcc,_⟩:=hbs
  obtain⟨rfl,_,rfl⟩:=Value.slice.inj e9
  have f1:data.length<=10000:=f1
  have hcc:data.length<=cd:=hcc
  refine(ref22.decReq_any A nd cd data wX hnd ((rr.kp kX (by simp)).rd) (by omega) f2 (by omega)).mono ?_
  rintro e w' hq
  obtain⟨Aq,nq,cq,rfl,hz⟩:=hq
  rw[show(ref22.dWReq data).2=0 from f3,hq0,hq1,hq2]
  exact⟨Aq,nq,cq,rfl,⟨hz.2⟩⟩⟩
 have HFIN:∀e15,bits BinOp.and IntKind.i64 er 15=e15->As ((∃g,g≠0/\(T=(s,[]))/\∀wX A' n' c',xs.length=n'->Calls Tryz.prog 15 #[.agg #[.int .i64 q1,.int .i64 e15,.int .i64 ht,.slice A' n' c']] wX fun e w'=>e= .returned (.tuple #[.slice none 0 0,.int .i64 g])/\As (Kp [] wX w'))\/
  (∃N,T=co.hear cf s ⟨dst,frm,fEnc (pay 114 [q1,e15,ht+1] xs)⟩/\(fEnc (pay 114 [q1,e15,ht+1] xs)).length=N/\N<=40000/\∀wX A' n' c',xs.length=n'->Rd wX A' (iv .u8 xs)->(A'=none->c'=0)->Calls Tryz.prog 15 #[.agg #[.int .i64 q1,.int .i64 e15,.int .i64 ht,.slice A' n' c']] wX fun e w'=>∃A1 c1,e= .returned (.tuple #[.slice A1 N c1,.int .i64 0])/\As (Own 5 .u8 w' wX.heap.size (.slice A1 N c1) (fEnc (pay 114 [q1,e15,ht+1] xs))/\Kp [] wX w'))):=fun e15 he=>⟨by
  have htt:=HT.out
  rw[replyS,he,hq1] at htt
  have hpl:=pay_len 114 [q1,e15,ht+1] xs (by simp)
  by_cases hwr:wrOk q1 e15 ht=true
  ·rw[if_pos hwr] at htt
   obtain⟨hk1,hc1,hs1⟩:=ref22.wrOk_iff.1 hwr
   refine .inr ⟨(pay 114 [q1,e15,ht+1] xs).length+12,htt.symm,fEnc_len _,by omega,fun wX A' n' c' hl hr h0=> ?_⟩
   refine(ref22.encReply_ok q1 e15 ht A' n' c' xs wX hl hr h0 hxw (by omega) hk1 hc1 hs1 _ rfl).mono ?_
   rintro e w' ⟨A1,c1,rfl,a,hcc⟩
   exact⟨A1,c1,rfl,⟨⟨by rw[fEnc_len];exact a.own,a.lo⟩,a.kp⟩⟩
  ·rw[if_neg hwr] at htt
   refine .inl ⟨1,by decide,htt.symm,fun wX A' n' c' hl=> ?_⟩
   refine(ref22.encReply_err q1 e15 ht A' n' c' wX 1 (by rw[ref22.rpErr,if_pos (by simpa using hwr)]) (by decide)).mono ?_
   rintro e w' ⟨rfl,k⟩
   exact⟨rfl,⟨k⟩⟩⟩
 clear hn hb h hPW hbs w0 w1 w2 hnd hq0 hq1 hq2
 unfold actObj at hW
 go_enter Tryz.func20,Tryz.ntmps20
 go_upto_region 25 with fail
 clear hW
 obtain⟨x2,x1,y0,y1,y2⟩:=KX.out W (Kp.refl _ W)
 go_region_held3 (fun wX=>wX.cell? ⟨P,2,none⟩=some (.slice (some ⟨b,o,none⟩) n c)/\wX.cell? ⟨mb,1,none⟩=some (.int .i64 an)/\wX.cell? ⟨b,o+i*3,none⟩=some (.int .i64 frm)/\wX.cell? ⟨b,o+i*3+1,none⟩=some (.int .i64 dst)/\wX.cell? ⟨b,o+i*3+2,none⟩=some (.slice A nd cd))
  (first|exact KX.out _ (Kp.refl _ _)|exact KX.out _ (Kp.refl _ _).drew|exact KX.out _ ((Kp.refl _ _).drewN _)|exact KX.out _ ((Kp.refl _ _).alloc _)|exact KX.out _ ((Kp.refl _ _).drew.alloc _)|exact KX.out _ ((Kp.refl _ _).alloc _).drew|exact KX.out _ (((Kp.refl _ _).drewN _).alloc _)) (fail)
 obtain⟨yb,hyb⟩:∃yb,W.heap.size=yb:=⟨_,rfl⟩
 obtain⟨W5,hW5⟩:∃W5,(W.alloc (.cells #[.int .i64 frm,.int .i64 dst,.slice A nd cd] 44)).drew=W5:=⟨_,rfl⟩
 have hy5:W5.heap[yb]?=some (.cells #[.int .i64 frm,.int .i64 dst,.slice A nd cd] 44 (0,0)):=by rw[<-hW5,<-hyb];exact heap_alloc_new W _
 have k5:Kp [] W W5:=by rw[<-hW5];exact((Kp.refl [] W).alloc _).drew
 rw[hW5,hyb]
 have HK5:=As.mk k5
 have z0:=bkc hy5 0 rfl
 have z1:=bkc hy5 1 rfl
 have z2:W5.cell? ⟨yb,2,none⟩=some (.slice A nd cd):=bkc hy5 2 rfl
 have HDQ5:=As.mk (HDQ.out W5 k5)
 clear HDQ x2 x1 y0 y1 y2 KX hW5 k5 hy5 hyb p2 a0 a1
 go_upto_region 27 with(go_at_call 12;refine HDQ5.out.mono ?_;rintro e w6 ⟨Aq,nq2,cq,rfl,HQ⟩;clear HDQ5)
 have HBK6:=HQ.out.blk (HK5.out.blk HBK.out (by simp)) (by simp)
 obtain⟨w7,hw7⟩:∃w7,w6.alloc (.cells #[.int .i64 q0,.int .i64 q1,.int .i64 q2,.slice Aq nq2 cq] 40)=w7:=⟨_,rfl⟩
 obtain⟨qb,hqb⟩:∃qb,w6.heap.size=qb:=⟨_,rfl⟩
 rw[hw7,hqb]
 have k67:Kp [] w6 w7:=by rw[<-hw7];exact(Kp.refl [] w6).alloc _
 have hq7:w7.heap[qb]?=some (.cells #[.int .i64 q0,.int .i64 q1,.int .i64 q2,.slice Aq nq2 cq] 40 (0,0)):=by rw[<-hw7,<-hqb];exact heap_alloc_new w6 _
 have k57:Kp [] W5 w7:=HQ.out.trans k67 (by simp)
 have k07:Kp [] w w7:=(kW.trans HK5.out (by simp)).trans k57 (by simp)
 have hb7:=k67.blk HBK6 (by simp)
 have q1c:=bkc hq7 1 rfl
 have z0:=k57.cell z0 (by simp)
 have z1:=k57.cell z1 (by simp)
 have b0:=bkc hb7 0 rfl
 have b1:=bkc hb7 1 rfl
 have b2:=bkc hb7 2 rfl
 have b3:=bkc hb7 3 rfl
 have b4:=bkc hb7 4 rfl
 have b5:=bkc hb7 5 rfl
 have b6:=bkc hb7 6 rfl
 have b7:=bkc hb7 7 rfl
 have b8:=bkc hb7 8 rfl
 have HK07:=As.mk k07
 obtain⟨e15,he15⟩:∃x,bits BinOp.and IntKind.i64 er 15=x:=⟨_,rfl⟩
 obtain⟨hfin⟩:=HFIN e15 he15
 clear hw7 hqb k67 hq7 k57 k07 hb7 HBK6 HQ z2 HFIN
 have HD7:As (∀wX,Kp [] w7 wX->Calls Tryz.prog 67 #[.agg #[.int .i64 6,.int .i64 an,.int .i64 er,.int .i64 ht,.int .i64 wh,.int .i64 fr,.string key,BV,MV]] wX fun e w'=>∃A n c,e= .returned (.slice A n c)/\w'.cell? ⟨mb,2,none⟩=some (.int .i64 er)/\w'.cell? ⟨mb,3,none⟩=some (.int .i64 ht)/\w'.cell? ⟨qb,1,none⟩=some (.int .i64 q1)/\As (Rd w' A (iv .u8 xs)/\(A=none->c=0)/\xs.length=n/\Kp [] w7 w')):=⟨fun wX kX=>by
  refine(HD.out wX (HK07.out.trans kX (by simp))).mono ?_
  rintro e w' ⟨A,n,c,rfl,hh⟩
  have k7:=kX.trans hh.out.2.2.2 (by simp)
  exact⟨A,n,c,rfl,k7.cell b2 (by simp),k7.cell b3 (by simp),k7.cell q1c (by simp),⟨hh.out.1,hh.out.2.1,hh.out.2.2.1,k7⟩⟩⟩
 rcases hfin with⟨g,hg,hfin⟩|hfin
 ·
  obtain⟨hTT,hE⟩:=hfin
  have HTT:=As.mk hTT
  have HE7:As (∀w8,Kp [] w7 w8->∀wX A' n' c',xs.length=n'->Kp [] w8 wX->Calls Tryz.prog 15 #[.agg #[.int .i64 q1,.int .i64 e15,.int .i64 ht,.slice A' n' c']] wX fun e w'=>e= .returned (.tuple #[.slice none 0 0,.int .i64 g])/\As (Kp [] w7 w')):=⟨fun w8 k8 wX A' n' c' hl kX=>by
   refine(hE wX A' n' c' hl).mono ?_
   rintro e w' ⟨rfl,hk⟩
   exact⟨rfl,⟨(k8.trans kX (by simp)).trans hk.out (by simp)⟩⟩⟩
  have gb:(g !=0)=true:=by simpa using hg
  clear hE hTT hg
  have KZ:As (∀wX,Kp [] w7 wX->wX.cell? ⟨qb,1,none⟩=some (.int .i64 q1)/\wX.cell? ⟨mb,0,none⟩=some (.int .i64 6)/\wX.cell? ⟨mb,1,none⟩=some (.int .i64 an)/\wX.cell? ⟨mb,2,none⟩=some (.int .i64 er)/\wX.cell? ⟨mb,3,none⟩=some (.int .i64 ht)/\wX.cell? ⟨mb,4,none⟩=some (.int .i64 wh)/\wX.cell? ⟨mb,5,none⟩=some (.int .i64 fr)/\wX.cell? ⟨mb,6,none⟩=some (.string key)/\wX.cell? ⟨mb,7,none⟩=some BV/\wX.cell? ⟨mb,8,none⟩=some MV):=⟨fun wX kX=>⟨kX.cell q1c (by simp),kX.cell b0 (by simp),kX.cell b1 (by simp),kX.cell b2 (by simp),kX.cell b3 (by simp),kX.cell b4 (by simp),kX.cell b5 (by simp),kX.cell b6 (by simp),kX.cell b7 (by simp),kX.cell b8 (by simp)⟩⟩
  go_upto_region 29 with fail
  go_cut [14,15] from 171 to 184 (fun v14 v15 wx=>∃w9,w9=wx/\v15= .int .i64 g/\As (Kp [] w7 w9))
  case first=>
   go_region_held3 (fun wX=>wX.cell? ⟨qb,1,none⟩=some (.int .i64 q1)/\wX.cell? ⟨mb,0,none⟩=some (.int .i64 6)/\wX.cell? ⟨mb,1,none⟩=some (.int .i64 an)/\wX.cell? ⟨mb,2,none⟩=some (.int .i64 er)/\wX.cell? ⟨mb,3,none⟩=some (.int .i64 ht)/\wX.cell? ⟨mb,4,none⟩=some (.int .i64 wh)/\wX.cell? ⟨mb,5,none⟩=some (.int .i64 fr)/\wX.cell? ⟨mb,6,none⟩=some (.string key)/\wX.cell? ⟨mb,7,none⟩=some BV/\wX.cell? ⟨mb,8,none⟩=some MV)
    (first|exact KZ.out _ (Kp.refl _ _)|exact KZ.out _ (Kp.refl [] w7).drew|exact KZ.out _ ((Kp.refl [] w7).drewN _)|exact KZ.out _ HDX.out.2.2.2|exact KZ.out _ (HDX.out.2.2.2.drewN _)|exact KZ.out _ HK9.out|exact KZ.out _ (HK9.out.drewN _))
    (first
    |(go_at_call 67;refine(HD7.out _ (by first|exact Kp.refl _ _|exact(Kp.refl [] w7).drew|exact(Kp.refl [] w7).drewN _)).mono ?_;rintro e w8 ⟨A8,n8,c8,rfl,v2,v3,vq,HDX⟩;have HE8:=As.mk (fun wX kX=>HE7.out w8 HDX.out.2.2.2 wX A8 n8 c8 HDX.out.2.2.1 kX))
    |(go_at_call 15;refine(HE8.out _ (by first|exact Kp.refl _ _|exact(Kp.refl [] _).drewN _)).mono ?_;rintro e w9 ⟨rfl,HK9⟩))
   all_goals
    go_wp2_with fail
    go_meet
    exact⟨_,rfl,rfl,HK9⟩
  case rest=>
   obtain⟨w9,rfl,rfl,HK9⟩:=hcut
   go_wp2_with fail
   go_ret
   have k09:Kp [] w w9:=HK07.out.trans HK9.out (by simp)
   rw[HTT.out]
   refine⟨rfl,L,M,_, ?_,k09.mono (by simp),fun x hx=> .inl hx⟩
   rw[wayN_nil hms]
   exact HH.out.kp0 k09
 ·
  obtain⟨N,hTT,hNl,hN9,hE⟩:=hfin
  have HTT:=As.mk hTT
  have HE7:As (∀w8,Kp [] w7 w8->∀wX A' n' c',xs.length=n'->Rd w8 A' (iv .u8 xs)->(A'=none->c'=0)->Kp [] w8 wX->Calls Tryz.prog 15 #[.agg #[.int .i64 q1,.int .i64 e15,.int .i64 ht,.slice A' n' c']] wX fun e w'=>∃A1 c1,e= .returned (.tuple #[.slice A1 N c1,.int .i64 0])/\As (Own 5 .u8 w' w7.heap.size (.slice A1 N c1) (fEnc (pay 114 [q1,e15,ht+1] xs))/\Kp [] w7 w')):=⟨fun w8 k8 wX A' n' c' hl hr h0 kX=>by
   refine(hE wX A' n' c' hl (kX.rd hr (fun _ _=>by simp)) h0).mono ?_
   rintro e w' ⟨A1,c1,rfl,hk⟩
   have k7:=k8.trans kX (by simp)
   exact⟨A1,c1,rfl,⟨hk.out.1.lower k7.size,k7.trans hk.out.2 (by simp)⟩⟩⟩
  clear hE hTT
  have KZ:As (∀wX,Kp [] w7 wX->wX.cell? ⟨qb,1,none⟩=some (.int .i64 q1)/\wX.cell? ⟨mb,0,none⟩=some (.int .i64 6)/\wX.cell? ⟨mb,1,none⟩=some (.int .i64 an)/\wX.cell? ⟨mb,2,none⟩=some (.int .i64 er)/\wX.cell? ⟨mb,3,none⟩=some (.int .i64 ht)/\wX.cell? ⟨mb,4,none⟩=some (.int .i64 wh)/\wX.cell? ⟨mb,5,none⟩=some (.int .i64 fr)/\wX.cell? ⟨mb,6,none⟩=some (.string key)/\wX.cell? ⟨mb,7,none⟩=some BV/\wX.cell? ⟨mb,8,none⟩=some MV):=⟨fun wX kX=>⟨kX.cell q1c (by simp),kX.cell b0 (by simp),kX.cell b1 (by simp),kX.cell b2 (by simp),kX.cell b3 (by simp),kX.cell b4 (by simp),kX.cell b5 (by simp),kX.cell b6 (by simp),kX.cell b7 (by simp),kX.cell b8 (by simp)⟩⟩
  go_upto_region 29 with fail
  go_cut [14,15] from 171 to 184 (fun v14 v15 wx=>∃w9 A1 c1,w9=wx/\(.slice A1 N c1:Value)=v14/\v15= .int .i64 0/\As (Own 5 .u8 w9 w7.heap.size (.slice A1 N c1) (fEnc (pay 114 [q1,e15,ht+1] xs))/\Kp [] w7 w9))
  case first=>
   go_region_held3 (fun wX=>wX.cell? ⟨qb,1,none⟩=some (.int .i64 q1)/\wX.cell? ⟨mb,0,none⟩=some (.int .i64 6)/\wX.cell? ⟨mb,1,none⟩=some (.int .i64 an)/\wX.cell? ⟨mb,2,none⟩=some (.int .i64 er)/\wX.cell? ⟨mb,3,none⟩=some (.int .i64 ht)/\wX.cell? ⟨mb,4,none⟩=some (.int .i64 wh)/\wX.cell? ⟨mb,5,none⟩=some (.int .i64 fr)/\wX.cell? ⟨mb,6,none⟩=some (.string key)/\wX.cell? ⟨mb,7,none⟩=some BV/\wX.cell? ⟨mb,8,none⟩=some MV)
    (first|exact KZ.out _ (Kp.refl _ _)|exact KZ.out _ (Kp.refl [] w7).drew|exact KZ.out _ ((Kp.refl [] w7).drewN _)|exact KZ.out _ HDX.out.2.2.2|exact KZ.out _ (HDX.out.2.2.2.drewN _)|exact KZ.out _ HK9.out.2|exact KZ.out _ (HK9.out.2.drewN _))
    (first
    |(go_at_call 67;refine(HD7.out _ (by first|exact Kp.refl _ _|exact(Kp.refl [] w7).drew|exact(Kp.refl [] w7).drewN _)).mono ?_;rintro e w8 ⟨A8,n8,c8,rfl,v2,v3,vq,HDX⟩;have HE8:=As.mk (fun wX kX=>HE7.out w8 HDX.out.2.2.2 wX A8 n8 c8 HDX.out.2.2.1 HDX.out.1 HDX.out.2.1 kX))
    |(go_at_call 15;refine(HE8.out _ (by first|exact Kp.refl _ _|exact(Kp.refl [] _).drewN _)).mono ?_;rintro e w9 ⟨A1,c1,rfl,HK9⟩))
   all_goals
    go_wp2_with fail
    go_meet
    exact⟨_,_,_,rfl,rfl,rfl,HK9⟩
  case rest=>
   obtain⟨w9,A1,c1,rfl,rfl,rfl,HK9⟩:=hcut
   have k79:=HK9.out.2
   have k09:Kp [] w w9:=HK07.out.trans k79 (by simp)
   have z0:=k79.cell z0 (by simp)
   have z1:=k79.cell z1 (by simp)
   have HE9:As (Calls Tryz.prog 68 #[.pointer (some ⟨P,0,none⟩),.agg #[.int .i64 dst,.int .i64 frm,.slice A1 N c1]] w9 fun e w'=>e= .returned (.bool true)/\As (Played U P L M cf (.slice (some ⟨b,o,none⟩) ms.length c) T.1 (wayN ms T.2) w w')):=⟨by
    have hlt:=HH.out.lt
    have s07:=HK07.out.size
    have hb9:BSl (S0 P L M U) w9 (.slice A1 N c1) (fEnc (pay 114 [q1,e15,ht+1] xs)):=BSl.own HK9.out.1 (fun x hx=> .inl (by have:=hlt x hx;omega))
    refine(hears_any U w9 P L M cf s _ ms k dst frm _ A1 N c1 (HH.out.kp0 k09) inv hk h2 hms hNl hb9 (fEnc_wf (pay_wf (by omega) hxw)) hN9).mono ?_
    rintro e w' ⟨rfl,L1,M1,WV1,r1,r2,r3⟩
    rw[HTT.out]
    exact⟨rfl,⟨L1,M1,WV1,r1,(k09.mono (by simp)).trans r2 (fun x hx=> .inl hx),fun x hx=>(r3 x hx).imp id (fun e=>Nat.le_trans k09.size e)⟩⟩⟩
   clear hNl hN9 k79 k09 hx
   go_wp2_with (go_at_call 68;refine HE9.out.mono ?_;rintro e w' ⟨rfl,HPL⟩;clear HE9)
   go_ret
   exact⟨rfl,HPL.out⟩
theorem reply_inv{cf:Cfg}{s:Cs}{k:Nat}{m:Msg}{er ht:Int}{xs:List Int}(h:PInv cf s k)(hl:xs.length<=39000):PInv cf (replyS cf s m er ht xs).1 k/\(∀m'∈(replyS cf s m er ht xs).2,FrOk m'.data)/\(replyS cf s m er ht xs).2.length<=1:=by
 unfold replyS
 split
 ·refine h.hear ?_
  have:=pay_len 114 [(ref22.dWReq m.data).1.err,er,ht+1] xs (by simp)
  show(fEnc _).length<=_
  rw[fEnc_len]
  omega
 ·exact⟨h,by simp,by simp⟩
end Go.Proofs.YtdiljpdohmeceaaGreat.co
