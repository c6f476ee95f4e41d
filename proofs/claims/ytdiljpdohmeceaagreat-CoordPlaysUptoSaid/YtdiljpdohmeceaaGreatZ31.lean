/- Words and walks that this claim rests on: proved lemmas alone. -/
import Derived.Test.YtdiljpdohmeceaaGreatZ30
set_option maxHeartbeats 16000000
set_option maxRecDepth 100000
namespace Go.Proofs.YtdiljpdohmeceaaGreat.co.cr
open Go.RowKit H O opk frame wir
theorem RsSt.sends{U:List Nat}{w:World}{L:RLay}{cf:Cfg}{s:Cs}(h:RsSt U w L cf s){i:Nat}{a:Ask}(ha:s.asks[i]?=some a)(hwl:s.whom.length=cf.shards.length)(hsh:a.shard<cf.shards.length)(hg:Grp cf.shards[a.shard]){NF:Nat}{d:Int}(hNF:a.frame.length=NF)(hd:dest cf s.whom a.shard=d)(hNF9:NF<=10000)(hsl:cf.shards.length<=8){ga:Nat}(hga:L.ga=some ga):
 Calls Tryz.prog 99 #[.pointer (some ⟨L.b,0,none⟩),.pointer (some ⟨ga,i*11,none⟩)] w fun e w6=>∃A2 c2,e= .returned (.agg #[.int .i64 (cf.id:Int),.int .i64 d,.slice A2 NF c2])/\
  As (RsSt U w6 L cf {s with asks:=s.asks.set i {a with waited:=0}}/\BSl (L.all++U) w6 (.slice A2 NF c2) a.frame/\Kp [ga] w w6):=by
 obtain⟨ga',hA⟩:=h.ask ha
 obtain rfl:ga'=ga:=by have:=hA.hga;rw[hga] at this;exact(Option.some.inj this).symm
 obtain⟨VSA,Ab,Ao,hW⟩:=h.wh (sh:=a.shard) hwl hsh hg
 obtain⟨g0,_⟩:=h.head
 obtain⟨cw,cwc⟩:=hW.wA
 obtain⟨Af,cF,q2,hrf,hnf⟩:=hA.q2
 rw[hNF] at q2
 have hw0:=hW.w0
 rw[hd] at hw0
 refine(sends_at w L.b ga' (i*11) L.gw a.shard (cf.id:Int) d Af NF cF a.frame ⟨g0,⟨cf.shards.length,cw,hsh,by omega,cwc⟩,hw0,hA.q0,q2,⟨_,hA.q4⟩,hA.fr _,hrf,hNF,hnf,hA.ne.1,hA.ne.2⟩ (by omega)).mono ?_
 rintro e w6 ⟨A2,c2,rfl,H6⟩
 have kS:Kp [ga'] w (w.setCell ⟨ga',i*11+4,none⟩ (.int .i64 0)):=(Kp.refl _ w).setCell (.inl (by simp)) _
 refine⟨A2,c2,rfl,⟨(hA.wait 0).kp H6.out.2 (by simp) (fun x hx=> .inl hx),BSl.own H6.out.1 (fun x hx=> .inl (h.lt x hx)),kS.trans H6.out.2 (by simp)⟩⟩
theorem hear_main(U:List Nat)(w:World)(L:RLay)(cf:Cfg)(s:Cs)(frm:Int)(A:Option Addr)(n c:Nat)(data:List Int)(hC:RsSt U w L cf s)(ok:CsOk cf s)(ho:HOk s)(hd9:s.done.length<=1000000)(he9:s.ended<=1000000)(hdis:Dis s.asks)
 (hsum:∀i a j jr,s.jobs=j::jr->askIx s.asks (dWRep data).1.ctx=some i->s.asks[i]?=some a->((s.asks.set i {a with answered:=true,ms:=(took j (dWRep data).1.data).ms}).flatMap (·.ms)).length<=100000)
 (hf0:0<=frm) (hf7:frm<7) (hn:data.length=n) (hr:Rd w A (iv .u8 data)) (hc:n<=c) (hw:Wf data) (hm:n<=50000):
 Calls Tryz.prog 101 #[.pointer (some ⟨L.b,0,none⟩),.agg #[.int .i64 frm,.int .i64 (cf.id:Int),.slice A n c]] w (RTick U L cf (hear cf s ⟨frm,(cf.id:Int),data⟩) w):=by
 have HCS:=As.mk hC
 obtain⟨na,hna⟩:∃na,s.asks.length=na:=⟨_,rfl⟩
 have hfew:=ok.few
 rw[hna] at hfew
 obtain⟨b0,_,_,_,lb,_,AA,cA,b7⟩:=hC.head
 rw[hna] at b7
 obtain⟨W,hW⟩:∃W,W=w.alloc (msgObj frm (cf.id:Int) A n c):=⟨_,rfl⟩
 have kW:Kp [] w W:=by rw[hW];exact(Kp.refl [] w).alloc _
 have hb:W.heap[w.heap.size]?=some (msgObj frm (cf.id:Int) A n c):=by rw[hW];exact heap_alloc_new w _
 have m0:W.cell? ⟨w.heap.size,0,none⟩=some (.int .i64 frm):=bkc hb 0 rfl
 have m1:W.cell? ⟨w.heap.size,1,none⟩=some (.int .i64 (cf.id:Int)):=bkc hb 1 rfl
 have m2:W.cell? ⟨w.heap.size,2,none⟩=some (.slice A n c):=bkc hb 2 rfl
 have b0:=kW.cell b0 (by simp)
 have e1:((cf.id:Int) !=(cf.id:Int))=false:=by simp
 have e2:decide (frm<0)=false:=decide_eq_false (by omega)
 have e3:decide (7<=frm)=false:=decide_eq_false (by omega)
 obtain⟨ctx,hctx⟩:∃x,(dWRep data).1.ctx=x:=⟨_,rfl⟩
 obtain⟨er,her⟩:∃x,(dWRep data).1.err=x:=⟨_,rfl⟩
 obtain⟨hint,hhint⟩:∃x,(dWRep data).1.hint=x:=⟨_,rfl⟩
 obtain⟨dat,hdat⟩:∃x,(dWRep data).1.data=x:=⟨_,rfl⟩
 obtain⟨z,hz⟩:∃x,(dWRep data).2=x:=⟨_,rfl⟩
 obtain⟨hdl,hdw⟩:=dWRep_dat data
 have hdw:=hdw hw
 rw[hdat] at hdl hdw hsum
 rw[hctx] at hsum
 have HDR:As (∀wX,Kp [] W wX->Calls Tryz.prog 123 #[.slice A n c] wX fun e w'=>∃AD nD cD,e= .returned (.tuple #[.agg #[.int .i64 ctx,.int .i64 er,.int .i64 hint,.slice AD nD cD],.int .i64 z])/\As (Own 5 .u8 w' wX.heap.size (.slice AD nD cD) dat/\Kp [] wX w')):=⟨fun wX kX=>by
  refine(ref22.decReply_any A n c data wX hn ((kW.trans kX (by simp)).rd_new hr (by simp)) hc hw (by omega)).mono ?_
  rintro e w' ⟨AD,nD,cD,rfl,o,k⟩
  rw[hctx,her,hhint,hz]
  rw[hdat] at o
  exact⟨AD,nD,cD,rfl,⟨o,k⟩⟩⟩
 obtain⟨T,hT⟩:∃T,hear cf s ⟨frm,(cf.id:Int),data⟩=T:=⟨_,rfl⟩
 have hnd:¬((cf.id:Int)≠(cf.id:Int)\/frm<0\/7<=frm):=by omega
 have HT0:As (z≠0\/askIx s.asks ctx=none->T=(s,[])):=⟨fun h=>by
  rw[<-hT,<-hz] at*
  unfold hear
  rw[if_neg hnd]
  cases hj:s.jobs with
  |nil=>rfl
  |cons j jr=>
   simp only
   by_cases h0:(dWRep data).2=0
   ·rw[if_neg (by rw[h0];simp),hctx]
    rcases h with e|e
    ·exact absurd h0 e
    ·rw[e]
   ·rw[if_pos h0]⟩
 have HTA:As (∀i a,z=0->askIx s.asks ctx=some i->s.asks[i]?=some a->∃j jr,s.jobs=j::jr/\((s.asks.set i {a with answered:=true,ms:=(took j dat).ms}).flatMap (·.ms)).length<=100000/\T=
  (if er=0 then(answ s i a j dat,[])
  else if er=11 then
   match nodeIx cf a.shard hint with
   |none=>(s,[])
   |some at_=>
    if hint=frm\/a.hinted=true then(s,[])
    else({s with whom:=s.whom.set a.shard at_,asks:=s.asks.set i {a with hinted:=true,waited:=0}},[msgOf cf (s.whom.set a.shard at_) a])
  else if er=12\/er=14\/er=9\/er=7 then(s,[])
  else(endErr s er,[]))):=⟨fun i a h0 hi ha=>by
  obtain⟨j,jr,hj⟩:∃j jr,s.jobs=j::jr:=by
   cases hj:s.jobs with
   |nil=>
    have:=ok.none hj
    rw[this] at ha
    simp at ha
   |cons j jr=>exact⟨j,jr,rfl⟩
  refine⟨j,jr,hj,hsum i a j jr hj hi ha, ?_⟩
  rw[<-hT,hear_cons hnd hj (by rw[hz];exact h0) (by rw[hctx];exact hi) ha]
  simp only[her,hhint,hdat]
  by_cases q0:er=0
  ·rw[if_pos q0,if_pos q0]
   unfold answ
   split
   ·rfl
   ·split<;>rfl
  ·rw[if_neg q0,if_neg q0]
   rfl⟩
 have HOK:=As.mk ok
 have HHO:=As.mk ho
 have HDIS:=As.mk hdis
 have HDW:=As.mk hdw
 have hdl9:dat.length<=50000:=by omega
 rw[hT]
 have HNA:=As.mk hna
 have HK:=As.mk kW
 have HB7:=As.mk b7
 clear hC hb hn hr hc hw hm hctx her hhint hdat hdl hdw hsum hT hnd ok ho hdis hna kW b7
 by_cases hz0:z=0
 ·subst hz0
  unfold msgObj at hW
  go_enter Tryz.func101,Tryz.ntmps101
  go_upto_region 1 with fail
  rw[<-hW]
  clear hW
  go_quiet (fail)
  obtain⟨WA,hWA⟩:∃WA,W.drewN nq=WA:=⟨_,rfl⟩
  have kA:Kp [] W WA:=by rw[<-hWA];exact(Kp.refl [] W).drewN nq
  rw[hWA]
  have HKA:=As.mk kA
  have m2:=kA.cell m2 (by simp)
  have lbA:=(HK.out.trans kA (by simp)).size
  clear hWA b0 m1 kA
  go_wp2_with (go_at_call 123;refine(HDR.out _ HKA.out).mono ?_;rintro e w2 ⟨AD,nD,cD,rfl,HD⟩;clear HDR)
  obtain⟨rb,hrb⟩:∃rb,w2.heap.size=rb:=⟨_,rfl⟩
  obtain⟨wB,hwB⟩:∃wB,w2.alloc (.cells #[.int .i64 ctx,.int .i64 er,.int .i64 hint,.slice AD nD cD] 55)=wB:=⟨_,rfl⟩
  rw[hwB,hrb]
  have k2:Kp [] w w2:=(HK.out.trans HKA.out (by simp)).trans HD.out.2 (by simp)
  have kB:Kp [] w wB:=by rw[<-hwB];exact k2.alloc _
  have hblk:wB.heap[rb]?=some (.cells #[.int .i64 ctx,.int .i64 er,.int .i64 hint,.slice AD nD cD] 55 (0,0)):=by rw[<-hwB,<-hrb];exact heap_alloc_new w2 _
  have hown:Own 5 .u8 wB w.heap.size (.slice AD nD cD) dat:=by
   rw[<-hwB]
   exact(HD.out.1.kp ((Kp.refl [] w2).alloc _) (by simp)).lower lbA
  have hmsg:wB.cell? ⟨w.heap.size,0,none⟩=some (.int .i64 frm):=by
   rw[<-hwB]
   exact((HKA.out.trans HD.out.2 (by simp)).alloc _).cell m0 (by simp)
  have hrb9:w.heap.size<=rb:=by rw[<-hrb];exact k2.size
  have HB:=As.mk (And.intro kB (And.intro hblk (And.intro hown (And.intro hmsg hrb9))))
  clear hrb9
  clear hwB hrb k2 kB hblk hown hmsg HD m2 m0 e1 e2 e3 lbA
  have HF0:As (Fnd s.asks ctx L.ga 0 none/\∃q,wB=wB.drewN q):=⟨.inl ⟨rfl,fun p hp=>by omega⟩,0,rfl⟩
  go_loopw [7,8] (fun v7 v8 wr=>∃(k:Nat) (f:Option Addr),v7= .pointer f/\v8= .int .i64 (k:Int)/\k<=na/\As (Fnd s.asks ctx L.ga k f/\∃q,wr=wB.drewN q)) (fun _ v _=>na-(intOf v).toNat)
  case atStart=>exact⟨0,none,rfl,rfl,by omega,HF0⟩
  case round=>
   clear HF0
   obtain⟨k,f,rfl,rfl,hk,HF⟩:=hrel
   have kX:Kp [] wB wr:=by
    obtain⟨_,q,e⟩:=HF.out
    rw[e]
    exact(Kp.refl [] wB).drewN q
   have kw:Kp [] w wr:=HB.out.1.trans kX (by simp)
   have b7:=kw.cell HB7.out (by simp)
   have r0:=bkc (kX.blk HB.out.2.1 (by simp)) 0 rfl
   have HKX:=As.mk kX
   clear kX
   by_cases hlt:k<na
   ·
    have i1:(k:Int)<(na:Int):=by omega
    have i0:(0:Int)<=(k:Int):=by omega
    have hkl:k<s.asks.length:=by rw[HNA.out];exact hlt
    obtain⟨a,haz⟩:∃a,s.asks[k]?=some a:=⟨_,List.getElem?_eq_getElem hkl⟩
    obtain⟨ga,hA⟩:=(HCS.out.kp (U2:=U) kw (by simp) (fun x hx=> .inl hx)).ask haz
    obtain⟨cA2,g7b⟩:=hA.c7
    rw[b7] at g7b
    have e7:=(Value.slice.inj (Option.some.inj g7b)).1
    subst e7
    clear g7b
    have q1:=hA.q1
    have q6:=hA.q6
    have HGA:=As.mk hA.hga
    have HAZ:=As.mk haz
    have HNX:As (∀q2,∃q,wr.drewN q2=wB.drewN q):=⟨fun q2=>by
     obtain⟨_,q,e⟩:=HF.out
     exact⟨q+q2,by rw[e,World.drewN_drewN]⟩⟩
    clear kw hA haz hkl
    by_cases hcx:(a.ctx:Int)=ctx
    ·have ec:((a.ctx:Int)==ctx)=true:=by simp[hcx]
     cases han:a.answered with
     |true=>
      rw[han] at q6
      have HP:=As.mk (show askPr s.asks ctx k=false by rw[askPr_at HAZ.out,han];rfl)
      clear han hcx
      go_wp2_with fail
      go_quiet (fail)
      go_wp2_with fail
      go_roundw
      case rel=>exact⟨k+1,f,rfl,by go_num,by omega,⟨HF.out.1.skip HP.out,HNX.out _⟩⟩
      case measure=>simp[intOf];omega
     |false=>
      rw[han] at q6
      have HP:=As.mk (show askPr s.asks ctx k=true by rw[askPr_at HAZ.out,han];simp[hcx])
      clear han hcx
      go_wp2_with fail
      go_quiet (fail)
      go_wp2_with fail
      go_roundw
      case rel=>exact⟨k+1,_,rfl,by go_num,by omega,⟨.inr ⟨_,k,by omega,HGA.out,rfl,HP.out⟩,HNX.out _⟩⟩
      case measure=>simp[intOf];omega
    ·have ec:((a.ctx:Int)==ctx)=false:=by simpa using hcx
     have HP:=As.mk (show askPr s.asks ctx k=false by rw[askPr_at HAZ.out];simp[hcx])
     clear hcx
     go_wp2_with fail
     go_quiet (fail)
     go_wp2_with fail
     go_roundw
     case rel=>exact⟨k+1,f,rfl,by go_num,by omega,⟨HF.out.1.skip HP.out,HNX.out _⟩⟩
     case measure=>simp[intOf];omega
   ·obtain rfl:k=na:=by omega
    have i1:¬(k:Int)<(k:Int):=by omega
    have HF2:=HF.out.1
    rw[<-HNA.out] at HF2
    rcases HF2.ix HDIS.out with⟨rfl,hx⟩|⟨ga,i,a,hga,rfl,hx,ha,han,hcx⟩
    ·
     have HT:=As.mk (HT0.out (.inr hx))
     have HK9:=As.mk kw
     clear hx HF2 kw HTA HT0
     go_wp2_with fail
     go_ret
     rw[HT.out]
     exact RTick.nothing HCS.out HK9.out
    ·obtain⟨j,jr,hj,hsm,hT⟩:=HTA.out i a trivial hx ha
     have hC4:=HCS.out.kp (U2:=U) kw (by simp) (fun x hx=> .inl hx)
     have hbl:=HKX.out.blk HB.out.2.1 (by simp)
     have r1:=bkc hbl 1 rfl
     have r2:=bkc hbl 2 rfl
     have r3:=bkc hbl 3 rfl
     have how:=HB.out.2.2.1.kp HKX.out (by simp)
     have HK9:=As.mk kw
     have HC4:=As.mk hC4
     have HJ:=As.mk (And.intro hj (And.intro hsm (And.intro ha (And.intro han hga))))
     have HOW:=As.mk how
     clear HF2 HTA HT0 hj hsm hga hx han hcx HF kw hC4 hbl how
     by_cases q0:er=0
     ·
      rw[if_pos q0] at hT
      subst q0
      have HT:=As.mk hT
      have hnD:dat.length=nD:=HOW.out.len
      have HAN:=As.mk (answered_any U wr L cf s j jr i ga w.heap.size a HC4.out HOK.out HHO.out HJ.out.1 HJ.out.2.2.1 HJ.out.2.2.2.1 HJ.out.2.2.2.2 AD nD cD dat HOW.out (fun g hg hm=>by
       have h1:=HOW.out.2 g hg
       have h2:=HCS.out.lt g hm
       omega) HDW.out (by omega) hd9 he9 HJ.out.2.1)
      clear hT ha hnD
      go_wp2_with (go_at_call 124;refine HAN.out.mono ?_;rintro e w5 HR;have he:=HR.1;subst he;have HR:=As.mk HR;clear HAN)
      go_ret
      rw[HT.out]
      exact RTick.ends HK9.out HR.out
     ·rw[if_neg q0] at hT
      have f0:(er==0)=false:=by simpa using q0
      by_cases q11:er=11
      ·rw[if_pos q11] at hT
       subst q11
       clear q0 f0
       have aok:=HOK.out.asks a (List.mem_of_getElem? ha)
       obtain⟨g2,hA⟩:=HC4.out.ask ha
       obtain rfl:g2=ga:=by have h1:=hA.hga;rw[HJ.out.2.2.2.2] at h1;exact(Option.some.inj h1).symm
       have q0:=hA.q0
       have q5:=hA.q5
       have mm:=HKX.out.cell HB.out.2.2.2.1 (by simp)
       obtain⟨B,hB⟩:∃B,(nodeIx cf a.shard hint).isSome=B:=⟨_,rfl⟩
       have HOF:As (∀wX,Kp [] wr wX->Calls Tryz.prog 125 #[.pointer (some ⟨L.b,0,none⟩),.int .i64 (a.shard:Int),.int .i64 hint] wX fun e w'=>e= .returned (.bool B)/\w'=wX):=⟨fun wX kX=>by
        rw[<-hB]
        exact of_any U wX L cf s (HC4.out.kp kX (by simp) (fun x hx=> .inl hx)) HOK.out a.shard aok.shard hint⟩
       have HSH:=As.mk aok
       clear hA aok
       cases hx:nodeIx cf a.shard hint with
       |none=>
        rw[hx] at hT hB
        obtain rfl:false=B:=hB
        have HT:=As.mk hT
        clear hT ha hx
        go_upto_region 19 with fail
        go_quiet ((go_at_call 125;refine Calls.quiet_of_same (HOF.out _ (by first|exact Kp.refl _ _|exact(Kp.refl _ _).drewN _))))
        go_wp2_with fail
        go_ret
        rw[HT.out]
        exact RTick.nothing HCS.out (HK9.out.drewN _)
       |some at_=>
        rw[hx] at hB
        rw[hx] at hT
        obtain rfl:true=B:=hB
        have HX:=As.mk hx
        clear hx
        by_cases hf:hint=frm
        ·
         rw[show(match (some at_:Option Nat) with|none=>(s,[])|some at_=>if hint=frm\/a.hinted=true then(s,[]) else _)=(if hint=frm\/a.hinted=true then(s,[]) else _) from rfl,if_pos (.inl hf)] at hT
         have HT:=As.mk hT
         have kk:(hint !=frm)=false:=by simp[hf]
         clear hT ha hf
         go_upto_region 19 with fail
         go_quiet ((go_at_call 125;refine Calls.quiet_of_same (HOF.out _ (by first|exact Kp.refl _ _|exact(Kp.refl _ _).drewN _))))
         go_wp2_with fail
         go_ret
         rw[HT.out]
         exact RTick.nothing HCS.out (HK9.out.drewN _)
        ·have kk:(hint !=frm)=true:=by simpa using hf
         cases hh:a.hinted with
         |true=>
          rw[hh] at q5
          have HT:As (T=(s,[])):=⟨by rw[hT];exact if_pos (.inr hh)⟩
          clear hT ha hf hh
          go_upto_region 19 with fail
          go_quiet ((go_at_call 125;refine Calls.quiet_of_same (HOF.out _ (by first|exact Kp.refl _ _|exact(Kp.refl _ _).drewN _))))
          go_wp2_with fail
          go_ret
          rw[HT.out]
          exact RTick.nothing HCS.out (HK9.out.drewN _)
         |false=>
          rw[hh] at q5
          have HT:As (T=({s with whom:=s.whom.set a.shard at_,asks:=s.asks.set i {a with hinted:=true,waited:=0}},[msgOf cf (s.whom.set a.shard at_) a])):=⟨by
           rw[hT]
           exact if_neg (by rw[hh];rintro(e|e);exact hf e;cases e)⟩
          clear hT hf hh
          clear ha
          go_upto_region 19 with fail
          go_quiet ((go_at_call 125;refine Calls.quiet_of_same (HOF.out _ (by first|exact Kp.refl _ _|exact(Kp.refl _ _).drewN _))))
          obtain⟨W3,hW3⟩:∃W3,wr.drewN nq=W3:=⟨_,rfl⟩
          rw[hW3]
          have k3:Kp [] wr W3:=by rw[<-hW3];exact(Kp.refl [] wr).drewN nq
          have hC3:=HC4.out.kp (U2:=U) k3 (by simp) (fun x hx=> .inl hx)
          obtain⟨g3,hA3⟩:=hC3.ask HJ.out.2.2.1
          obtain rfl:g3=g2:=by have h1:=hA3.hga;rw[HJ.out.2.2.2.2] at h1;exact(Option.some.inj h1).symm
          have p5:=hA3.q5
          have f5:=hA3.fr (i*11+5)
          obtain⟨W4,hW4⟩:∃W4,W3.setCell ⟨g3,i*11+5,none⟩ (.bool true)=W4:=⟨_,rfl⟩
          have hM4:RsSt U W4 L cf {s with asks:=s.asks.set i {a with hinted:=true}}:=by rw[<-hW4];exact hA3.hint true
          have hgr:=HOK.out.cfg.grp _ (List.getElem_mem HSH.out.shard)
          obtain⟨VSA,Ab,Ao,hWw⟩:=hM4.wh (sh:=a.shard) HOK.out.wlen HSH.out.shard hgr
          obtain⟨cw,w4c⟩:=hWw.wA
          obtain⟨ns,hns⟩:∃ns,cf.shards.length=ns:=⟨_,rfl⟩
          rw[hns] at w4c
          have j0:(0:Int)<=(a.shard:Int):=by omega
          have j1:(a.shard:Int)<(ns:Int):=by have:=HSH.out.shard;omega
          have k4:Kp [g3] wr W4:=by rw[<-hW4];exact(k3.mono (by simp)).trans ((Kp.refl _ W3).setCell (.inl (by simp)) _) (fun x hx=> .inl hx)
          have hgl:g3<w.heap.size:=HCS.out.lt g3 (List.mem_append.2 (.inl (RLay.mem.2 (.inr (.inr (.inr (.inl HJ.out.2.2.2.2)))))))
          have hwl:L.gw<w.heap.size:=HCS.out.lt L.gw (List.mem_append.2 (.inl (RLay.mem.2 (.inr (.inl rfl)))))
          have hrb9:=HB.out.2.2.2.2
          have r2:=k4.cell r2 (by simp;omega)
          have q0:W4.cell? ⟨g3,i*11,none⟩=some (.int .i64 (a.shard:Int)):=by
           rw[<-hW4,World.cell?_setCell_other]
           ·exact hA3.q0
           ·simp
          have hw0:=hWw.w0
          have hwf:=hWw.wf
          have hne:=hA3.ne
          have hbw:L.b≠L.gw:=fun e=>by
           obtain⟨κ9,_,_,_,_,_,hp9⟩:=HCS.out
           have h1:=hp9.sep.b
           have h2:=hp9.sep.gw
           rw[<-e] at h2
           omega
          obtain⟨d0,hd0⟩:∃d0,dest cf s.whom a.shard=d0:=⟨_,rfl⟩
          rw[show({s with asks:=s.asks.set i {a with hinted:=true}}:Cs).whom=s.whom from rfl,hd0] at hw0
          have KX:As (∀wX,Kp [L.gw] W4 wX->wX.cell? ⟨L.b,4,none⟩=some (.slice (some ⟨L.gw,0,none⟩) ns cw)/\wX.cell? ⟨g3,i*11,none⟩=some (.int .i64 (a.shard:Int))/\wX.cell? ⟨rb,2,none⟩=some (.int .i64 hint)):=⟨fun wX kX=>
           ⟨kX.cell w4c (by simpa using hbw),kX.cell q0 (by simpa using hne.2),kX.cell r2 (by simp;omega)⟩⟩
          have HC3:=As.mk hC3
          have HK3:=As.mk k3
          have HW4:=As.mk hW4
          have HGR:=As.mk hgr
          obtain⟨dd,hdd⟩:∃dd,dest cf (s.whom.set a.shard at_) a.shard=dd:=⟨_,rfl⟩
          obtain⟨fl,hfl⟩:∃fl,a.frame.length=fl:=⟨_,rfl⟩
          have HDD:=As.mk (And.intro hdd hfl)
          clear hW3 k3 hC3 hA3 hM4 hgr hWw hns k4 hgl hwl hrb9 hne hbw hd0 hdd hfl mm q5 r1 r3 nq hW4 r2 q0
          clear w4c
          go_upto_region 21 with fail
          rw[HW4.out]
          clear p5 f5
          obtain⟨x4,x0,x2⟩:=KX.out W4 (Kp.refl _ W4)
          go_region_held3 (fun wX=>wX.cell? ⟨L.b,4,none⟩=some (.slice (some ⟨L.gw,0,none⟩) ns cw)/\wX.cell? ⟨g3,i*11,none⟩=some (.int .i64 (a.shard:Int))/\wX.cell? ⟨rb,2,none⟩=some (.int .i64 hint))
           (first|exact KX.out _ (Kp.refl _ _)|exact KX.out _ (Kp.refl _ _).drew|exact KX.out _ ((Kp.refl _ _).drewN _)|exact KX.out _ ((Kp.refl _ _).setCell (.inl (by simp)) _)|exact KX.out _ ((Kp.refl _ _).drew.setCell (.inl (by simp)) _)|exact KX.out _ (((Kp.refl _ _).setCell (.inl (by simp)) _).drew)) (fail)
          obtain⟨W5,hW5⟩:∃W5,(W4.setCell ⟨L.gw,a.shard,none⟩ (.int .i64 hint)).drew=W5:=⟨_,rfl⟩
          rw[hW5]
          have hH:=HC3.out.hint (w:=W5) HOK.out HJ.out.2.2.1 HJ.out.2.2.2.2 HX.out (by rw[HW4.out,<-hW5];exact(Kp.refl [] _).drew)
          have HH:=As.mk hH
          have hil:=(List.getElem?_eq_some_iff.1 HJ.out.2.2.1).1
          have HSN:=As.mk (hH.1.sends (i:=i) (a:={a with hinted:=true}) (NF:=fl) (d:=dd) (List.getElem?_set_self hil) (by show(s.whom.set a.shard at_).length=_;rw[List.length_set];exact HOK.out.wlen) HSH.out.shard HGR.out HDD.out.2 HDD.out.1 (by rw[<-HDD.out.2];exact HSH.out.frame.1) HOK.out.cfg.len.2 HJ.out.2.2.2.2)
          clear hH hil hW5 x4 x0 x2 KX hw0 hwf
          go_wp2_with (go_at_call 99;refine HSN.out.mono ?_;rintro e w6 ⟨A6,c6,rfl,HF6⟩;clear HSN)
          go_ret
          rw[HT.out]
          have hc6:=HF6.out.1
          rw[List.set_set] at hc6
          have hA:Kp [] w6 (w6.alloc (.cells #[.int .i64 (cf.id:Int),.int .i64 dd,.slice A6 fl c6] 44)):=(Kp.refl [] w6).alloc _
          have hk6:Kp L.all w w6:=((HK9.out.mono (by simp)).trans (HK3.out.mono (by simp)) (fun x hx=> .inl hx)).trans ((HH.out.2.trans HF6.out.2.2 (fun x hx=> .inl (by simp at hx;simp[hx]))).mono (fun x hx=>by
           rcases List.mem_cons.1 hx with e|e
           ·rw[e];exact .inl (RLay.mem.2 (.inr (.inr (.inr (.inl HJ.out.2.2.2.2)))))
           ·rw[List.mem_singleton.1 e];exact .inl (RLay.mem.2 (.inr (.inl rfl))))) (fun x hx=> .inl hx)
          have hs6:=hk6.size
          refine⟨L,_,rfl,hc6.kp hA (by simp) (fun x hx=> .inl hx),⟨[.int .i64 (cf.id:Int),.int .i64 dd,.slice A6 fl c6],own_lit [.int .i64 (cf.id:Int),.int .i64 dd,.slice A6 fl c6] 3 rfl,fun g hg hm=> ?_, ?_⟩,RGrew.refl _ _,hk6.trans hA (by simp)⟩
          ·have:g=w6.heap.size:=by simpa [Value.ownBlock] using hg.symm
           have:=HCS.out.lt g hm
           omega
          ·have e1:msgOf cf (s.whom.set a.shard at_) a=⟨cf.id,dd,a.frame⟩:=by rw[<-HDD.out.1];rfl
           rw[e1]
           refine MsOk.snoc (l:=[]) (vs:=[]) (HF6.out.2.1.kp hA (by simp) (fun x hx=> ?_)) rfl
           simp only[List.mem_append,Option.mem_toList] at hx
           rcases hx with e|e|e
           ·right
            have:x=w6.heap.size:=by simpa [Value.ownBlock] using e.symm
            omega
           ·exact .inl (List.mem_append.2 (.inl e))
           ·exact .inl (List.mem_append.2 (.inr e))
      ·rw[if_neg q11] at hT
       have f11:(er==11)=false:=by simpa using q11
       by_cases qs:er=12\/er=14\/er=9\/er=7
       ·
        rw[if_pos qs] at hT
        have HT:=As.mk hT
        clear hT ha q0 q11
        rcases qs with rfl|rfl|rfl|rfl
        all_goals
         clear f0 f11
         go_wp2_with fail
         go_ret
         rw[HT.out]
         exact RTick.nothing HCS.out HK9.out
       ·
        rw[if_neg qs] at hT
        have f12:(er==12)=false:=by simpa using fun e=>qs (.inl e)
        have f14:(er==14)=false:=by simpa using fun e=>qs (.inr (.inl e))
        have f9:(er==9)=false:=by simpa using fun e=>qs (.inr (.inr (.inl e)))
        have f7:(er==7)=false:=by simpa using fun e=>qs (.inr (.inr (.inr e)))
        have HT:=As.mk hT
        obtain⟨κ,VS,VW,VL,VA,VD,hp⟩:=HC4.out
        have HEN:=As.mk (ends_any U wr wr L cf s κ VS VW VL VA VD hp (Kp.refl _ _) j jr HJ.out.1 0 er false false none none 0 0 0 0 [] [] (BSl.nil _ _) (MSl.nil _ _) hd9 he9)
        clear hT ha q0 q11 qs hp
        go_wp2_with (go_at_call 98;refine HEN.out.mono ?_;rintro e w5 HR;have he:=HR.1;subst he;have HR:=As.mk HR;clear HEN)
        go_ret
        rw[HT.out]
        exact RTick.ends HK9.out HR.out
 ·
  have HT:=As.mk (HT0.out (.inl hz0))
  unfold msgObj at hW
  go_enter Tryz.func101,Tryz.ntmps101
  go_upto_region 1 with fail
  rw[<-hW]
  clear hW
  go_quiet (fail)
  go_wp2_with (go_at_call 123;refine(HDR.out _ ((Kp.refl [] W).drewN nq)).mono ?_;rintro e w2 ⟨AD,nD,cD,rfl,HD⟩;clear HDR)
  go_ret
  rw[HT.out]
  exact RTick.nothing HCS.out (((HK.out.drewN nq).trans HD.out.2 (by simp)).alloc _)
theorem hear_any(U:List Nat)(w:World)(L:RLay)(cf:Cfg)(s:Cs)(m:Msg)(A:Option Addr)(n c:Nat)(hC:RsSt U w L cf s)(ok:CsOk cf s)(ho:HOk s)(hd9:s.done.length<=1000000)(he9:s.ended<=1000000)(hdis:Dis s.asks)
 (hsum:∀i a j jr,s.jobs=j::jr->askIx s.asks (dWRep m.data).1.ctx=some i->s.asks[i]?=some a->((s.asks.set i {a with answered:=true,ms:=(took j (dWRep m.data).1.data).ms}).flatMap (·.ms)).length<=100000)
 (hn:m.data.length=n) (hr:Rd w A (iv .u8 m.data)) (hc:n<=c) (hw:Wf m.data) (hm:n<=50000):
 Calls Tryz.prog 101 #[.pointer (some ⟨L.b,0,none⟩),.agg #[.int .i64 m.frm,.int .i64 m.dst,.slice A n c]] w (RTick U L cf (hear cf s m) w):=by
 by_cases hd:m.dst≠(cf.id:Int)\/m.frm<0\/7<=m.frm
 ·have e:hear cf s m=(s,[]):=by unfold hear;rw[if_pos hd]
  rw[e]
  exact hear_deaf U w L cf s m.frm m.dst A n c hC hd
 ·obtain⟨frm,dst,data⟩:=m
  have hdst:dst=(cf.id:Int):=by
   apply Classical.byContradiction
   intro h
   exact hd (.inl h)
  subst hdst
  have hf:0<=frm/\frm<7:=by
   have h2:¬(frm<0\/7<=frm):=fun e=>hd (.inr e)
   omega
  exact hear_main U w L cf s frm A n c data hC ok ho hd9 he9 hdis hsum hf.1 hf.2 hn hr hc hw hm
end Go.Proofs.YtdiljpdohmeceaaGreat.co.cr
