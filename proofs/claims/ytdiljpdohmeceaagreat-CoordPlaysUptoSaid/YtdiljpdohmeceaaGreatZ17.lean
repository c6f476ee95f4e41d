/- Words and walks that this claim rests on: proved lemmas alone. -/
import Derived.Test.YtdiljpdohmeceaaGreatZ16
set_option maxHeartbeats 16000000
set_option maxRecDepth 100000
namespace Go.Proofs.YtdiljpdohmeceaaGreat.co.cr
open Go.RowKit H O opk frame wir
theorem begins_any(U:List Nat)(w:World)(L:RLay)(cf:Cfg)(s:Cs)(j:Job)(jr:List Job)(hC:RsSt U w L cf s)(ok:CsOk cf s)(hj:s.jobs=j::jr)(ha:s.asks=[])(hx:j.kind=2->j.text=[])(hc9:s.ctx<=1000000)(he9:s.ended<=1000000):
 Calls Tryz.prog 97 #[.pointer (some ⟨L.b,0,none⟩)] w (RTick U L cf ({s with asks:=mkAsks cf s.ended j 1 s.ctx (jshards cf j),ctx:=s.ctx+(jshards cf j).length},(mkAsks cf s.ended j 1 s.ctx (jshards cf j)).map (msgOf cf s.whom)) w):=by
 have HC:=As.mk hC
 have hlt:=hC.lt
 obtain⟨κ,VS,VW,VL,VA,VD,h⟩:=hC
 have jok:=ok.jobs j (by rw[hj];simp)
 obtain⟨past,vs,j1,j2,j3,j4⟩:=h.jq
 have hjg:(past++s.jobs)[s.ended]?=some j:=by rw[List.getElem?_append_right (by omega),j1,Nat.sub_self,hj];rfl
 obtain⟨tv,g0,g1,g2,htx⟩:=j3.get hjg
 have hjl:0<s.jobs.length:=by rw[hj];simp
 obtain⟨gL,cL,rfl,_,_⟩:=own_form j2 (by omega)
 obtain⟨At,ct,rfl,ht2⟩:=id htx
 obtain⟨nt,hnt⟩:∃nt,j.text.length=nt:=⟨_,rfl⟩
 rw[hnt] at g2 htx ht2
 obtain⟨t,ht⟩:∃t,s.ended=t:=⟨_,rfl⟩
 obtain⟨nL,hnL⟩:∃n,s.ended+s.jobs.length=n:=⟨_,rfl⟩
 have b5:w.cell? ⟨L.b,5,none⟩=some (.slice (some ⟨gL,0,none⟩) nL cL):=by rw[<-hnL];exact bkc h.hd 5 rfl
 have b6:w.cell? ⟨L.b,6,none⟩=some (.int .i64 (t:Int)):=by rw[<-ht];exact bkc h.hd 6 rfl
 have d0:w.cell? ⟨gL,t*3,none⟩=some (.int .i64 (j.kind:Int)):=by rw[<-ht,j2.cellAt _ (by omega)];exact g0
 have d1:w.cell? ⟨gL,t*3+1,none⟩=some (.string j.key):=by rw[<-ht,j2.cellAt _ (by omega)];exact g1
 have d2:w.cell? ⟨gL,t*3+2,none⟩=some (.slice At nt ct):=by rw[<-ht,j2.cellAt _ (by omega)];exact g2
 have b3:∃AS cS,VS= .slice AS cf.shards.length cS:=by obtain⟨A,c,rfl,_⟩:=h.sh;exact⟨A,c,rfl⟩
 obtain⟨AS,cS,rfl⟩:=b3
 obtain⟨n,hn⟩:∃n,cf.shards.length=n:=⟨_,rfl⟩
 have hn9:=ok.cfg.len
 rw[hn] at hn9
 have b3:w.cell? ⟨L.b,3,none⟩=some (.slice AS n cS):=by rw[<-hn];exact bkc h.hd 3 rfl
 have i0:(0:Int)<=(t:Int):=by omega
 have i1:(t:Int)<(nL:Int):=by omega
 have t9:t<=1000000:=by omega
 obtain⟨kd,hkd⟩:∃kd:Int,(j.kind:Int)=kd:=⟨_,rfl⟩
 have HKD:=As.mk hkd
 obtain⟨key,hkey⟩:∃key,j.key=key:=⟨_,rfl⟩
 rw[hkd] at d0
 rw[hkey] at d1
 have KX:As (∀wX,Kp [] w wX->wX.cell? ⟨L.b,5,none⟩=some (.slice (some ⟨gL,0,none⟩) nL cL)/\wX.cell? ⟨L.b,6,none⟩=some (.int .i64 (t:Int))/\wX.cell? ⟨gL,t*3,none⟩=some (.int .i64 kd)/\wX.cell? ⟨gL,t*3+1,none⟩=some (.string key)/\wX.cell? ⟨gL,t*3+2,none⟩=some (.slice At nt ct)):=⟨fun wX kX=>
  ⟨kX.cell b5 (by simp),kX.cell b6 (by simp),kX.cell d0 (by simp),kX.cell d1 (by simp),kX.cell d2 (by simp)⟩⟩
 have HB3:=As.mk b3
 have HTX:=As.mk htx
 have HJ:=As.mk jok
 have HT:=As.mk ht
 have HN:=As.mk hn
 have HKEY:=As.mk hkey
 have HNT:=As.mk hnt
 have HLT:=As.mk hlt
 have HX:=As.mk hx
 have HOK:=As.mk ok
 have HJJ:=As.mk hj
 have HAA:=As.mk ha
 clear b5 b6 d0 d1 d2 b3 h j1 j2 j3 j4 hjg g0 g1 g2 ht2 htx hjl hnL ht hn jok hkd hkey hnt hlt hx ok hj ha
 go_enter Tryz.func97,Tryz.ntmps97
 go_upto_region 1 with fail
 go_cut [3] from 10 to 19 (fun v3 wx=>∃(jb:Nat) (w1:World),w1=wx/\v3= .pointer (some ⟨jb,0,none⟩)/\w1.cell? ⟨jb,0,none⟩=some (.int .i64 kd)/\w1.cell? ⟨jb,1,none⟩=some (.string key)/\As (JbAt w jb j At nt ct w1/\Kp [] w w1))
 case first=>
  go_region_held3 (fun wX=>wX.cell? ⟨L.b,5,none⟩=some (.slice (some ⟨gL,0,none⟩) nL cL)/\wX.cell? ⟨L.b,6,none⟩=some (.int .i64 (t:Int))/\wX.cell? ⟨gL,t*3,none⟩=some (.int .i64 kd)/\wX.cell? ⟨gL,t*3+1,none⟩=some (.string key)/\wX.cell? ⟨gL,t*3+2,none⟩=some (.slice At nt ct))
   (first|exact KX.out _ (Kp.refl [] w)|exact KX.out _ (Kp.refl [] w).drew|exact KX.out _ ((Kp.refl [] w).drewN _)|exact KX.out _ ((Kp.refl [] w).drew.alloc _)|exact KX.out _ (((Kp.refl [] w).drewN _).alloc _)|exact KX.out _ ((Kp.refl [] w).alloc _)) (fail)
  go_wp2_with fail
  go_meet
  have hq:=heap_alloc_new w (.cells #[.int .i64 kd,.string key,.slice At nt ct] 168)
  have k1:Kp [] w (w.alloc (.cells #[.int .i64 kd,.string key,.slice At nt ct] 168)).drew:=((Kp.refl [] w).alloc _).drew
  refine⟨w.heap.size,_,rfl,rfl,bkc hq 0 rfl,bkc hq 1 rfl,⟨⟨?_,Nat.le_refl _⟩,k1⟩⟩
  rw[HKD.out,HKEY.out]
  exact hq
 case rest=>
  obtain⟨jb,w1,rfl,rfl,q0,q1,HJB⟩:=hcut
  clear KX
  have b3:=HJB.out.2.cell HB3.out (by simp)
  obtain⟨fr,hfr⟩:∃fr,jfr cf j=fr:=⟨_,rfl⟩
  obtain⟨tz,hto⟩:∃tz,jto cf j=tz:=⟨_,rfl⟩
  have hft:fr<tz/\tz<=n:=by rw[<-hfr,<-hto,<-HN.out];exact jto_le (by rw[HN.out];omega)
  have HFT:=As.mk (And.intro hfr hto)
  have HSH:As (kd≠4->∀wX,Calls Tryz.prog 23 #[.string key,.int .i64 (n:Int)] wX fun e w'=>e= .returned (.tuple #[.int .i64 (fr:Int),.int .i64 0])/\w'=wX):=⟨fun h4 wX=>by
   have:=shard_any key n wX (by
    have:=(HJ.out.key (by have:=HKD.out;omega)).2
    rw[HKEY.out] at this
    omega) (by omega) (by omega)
   rwa[show shardOf (kb key) n=fr by rw[<-hfr,jfr,if_neg (by have:=HKD.out;omega),HKEY.out,HN.out]] at this⟩
  have HT4:As ((kd=4->fr=0/\tz=n)/\(kd≠4->tz=fr+1)):=⟨fun e=>by rw[<-hfr,<-hto,jfr,jto,if_pos (by have:=HKD.out;omega),if_pos (by have:=HKD.out;omega)];exact⟨rfl,HN.out⟩,fun e=>by rw[<-hfr,<-hto,jfr,jto,if_neg (by have:=HKD.out;omega),if_neg (by have:=HKD.out;omega)]⟩
  have hft9:fr<tz:=hft.1
  have hft8:tz<=n:=hft.2
  clear hfr hto hft
  go_upto_region 2 with fail
  go_quiet (fail)
  obtain⟨w2,hw2⟩:∃w2,w1.drewN nq=w2:=⟨_,rfl⟩
  rw[hw2]
  have q0:w2.cell? ⟨jb,0,none⟩=some (.int .i64 kd):=by rw[<-hw2];exact q0
  have q1:w2.cell? ⟨jb,1,none⟩=some (.string key):=by rw[<-hw2];exact q1
  have b3:w2.cell? ⟨L.b,3,none⟩=some (.slice AS n cS):=by rw[<-hw2];exact b3
  have HK12:As (Kp [] w1 w2):=⟨by rw[<-hw2];exact(Kp.refl [] w1).drewN nq⟩
  clear hw2
  go_upto_if 27 with fail
  go_cut [4,5] from 28 to 40 (fun v4 v5 wx=>v4= .int .i64 (fr:Int)/\v5= .int .i64 (tz:Int)/\As (∃q,wx=w2.drewN q))
  case first=>
   by_cases h4:kd=4
   ·obtain⟨rfl,rfl⟩:=HT4.out.1 h4
    subst h4
    go_wp2_with fail
    go_meet
    exact⟨rfl,rfl,⟨0,rfl⟩⟩
   ·have i3:((fr:Int)+1)=(tz:Int):=by have:=HT4.out.2 h4;omega
    have HS4:=As.mk (HSH.out h4)
    clear HSH HT4
    go_upto_region 4 with fail
    go_quiet ((go_at_call 23;exact Calls.quiet_of_same (HS4.out _)))
    go_wp2_with fail
    go_meet
    exact⟨rfl,rfl,⟨_,rfl⟩⟩
  case rest=>
   obtain⟨rfl,rfl,HW1⟩:=hcut
   have HKC:As (Kp [] w wc):=⟨by obtain⟨q,rfl⟩:=HW1.out;exact((HJB.out.2.trans HK12.out (by simp)).drewN q)⟩
   have HI0:As (BgR U L cf s j fr w jb At nt ct fr (.slice none 0 0) L wc):=⟨by
    have kj:Kp [] w1 wc:=by obtain⟨q,rfl⟩:=HW1.out;exact HK12.out.drewN q
    have hjl:=lt_of_block (kj.blk HJB.out.1.hd (by simp))
    refine⟨?_,RGrew.refl _ _, ?_,HKC.out.mono (by simp),HJB.out.1.kp kj (by simp), ?_,fun g e=>(by simp[Value.ownBlock] at e)⟩
    ·rw[bR_zero HAA.out]
     refine HC.out.kp HKC.out (by simp) (fun x hx=> ?_)
     simp only[Value.ownBlock,Option.toList_none,List.nil_append,List.mem_cons] at hx
     rcases hx with e|e
     ·exact .inr ⟨by have:=HJB.out.1.lo;omega,by omega⟩
     ·exact .inl e
    ·rw[bR_zero HAA.out,HAA.out]
     exact OutI.nil _ _
    ·refine HTX.out.kp HKC.out (by simp) (fun x hx=> ?_)
     simp only[Value.ownBlock,Option.toList_none,List.nil_append,List.mem_cons] at hx
     rcases hx with e|e
     ·exact .inr (by have:=HJB.out.1.lo;omega)
     ·exact .inl e⟩
   clear HW1 HK12 HSH HT4 q0 q1 b3 HC HTX HB3 HJB
   go_wp2_with fail
   go_loopw [6,7] (fun v6 v7 wr=>∃(k m c6:Nat) (A6:Option Addr) (Lk:RLay),v7= .int .i64 (k:Int)/\v6= .slice A6 m c6/\fr<=k/\k<=tz/\As (BgR U L cf s j fr w jb At nt ct k (.slice A6 m c6) Lk wr)) (fun _ i _=>tz-(intOf i).toNat)
   case atStart=>exact⟨fr,0,0,none,L,rfl,rfl,by omega,by omega,HI0⟩
   case round=>
    clear HI0
    obtain⟨k,m,c6,A6,Lk,rfl,rfl,hk1,hk2,HB⟩:=hrel
    by_cases hlt:k<tz
    ·have i2:(k:Int)<(tz:Int):=by omega
     obtain⟨κ',VS',VW',VL',VA',VD',hk⟩:=HB.out.st
     have hbL:Lk.b=L.b:=HB.out.gr.1
     obtain⟨c0,hc0⟩:∃c0,s.ctx+(k-fr)=c0:=⟨_,rfl⟩
     have hd:=hk.hd
     rw[hbL,show(bR cf s j fr k).ctx=c0 from hc0] at hd
     have b8:=bkc hd 8 rfl
     have f8:=blk_free hd 8
     have lb:=lt_of_block hd
     have nb:¬L.b=wr.heap.size:=by omega
     have hc1:c0<=1000008:=by omega
     have HC0:=As.mk hc0
     obtain⟨WA,hWA⟩:∃WA,WA=wr.setCell ⟨L.b,8,none⟩ (.int .i64 ((c0:Int)+1)):=⟨_,rfl⟩
     have kA:Kp [L.b] wr WA:=by rw[hWA];exact(Kp.refl [L.b] wr).setCell (.inl (by simp)) _
     have hdA:=heap_setCell_same wr L.b 8 _ _ (.int .i64 ((c0:Int)+1)) hd
     rw[<-hWA] at hdA
     have hjA:=HB.out.jbk.kp kA (by
      have:=hk.sep.U jb (by simp)
      have:=hk.sep.b
      rw[hbL] at this
      intro e
      simp at e
      subst e
      omega)
     have KX:As (∀wX,Kp [] WA wX->wX.cell? ⟨L.b,8,none⟩=some (.int .i64 ((c0:Int)+1))/\wX.cell? ⟨jb,2,none⟩=some (.slice At nt ct)):=⟨fun wX kX=>⟨bkc (kX.blk hdA (by simp)) 8 rfl,bkc (kX.blk hjA.hd (by simp)) 2 rfl⟩⟩
     have HWA:=As.mk hWA
     have HKA:=As.mk kA
     have HDA:=As.mk hdA
     have HJA:=As.mk hjA
     clear hk hd hc0 hWA kA hdA hjA
     go_upto_region 11 with fail
     rw[<-HWA.out]
     clear b8 f8 lb nb
     go_region_held3 (fun wX=>wX.cell? ⟨L.b,8,none⟩=some (.int .i64 ((c0:Int)+1))/\wX.cell? ⟨jb,2,none⟩=some (.slice At nt ct))
      (first|exact KX.out _ (Kp.refl [] _)|exact KX.out _ (Kp.refl [] _).drew|exact KX.out _ ((Kp.refl [] _).drewN _)|exact KX.out _ ((Kp.refl [] _).drew.alloc _)|exact KX.out _ (((Kp.refl [] _).drewN _).alloc _)|exact KX.out _ ((Kp.refl [] _).alloc _)|exact KX.out _ ((Kp.refl [] _).alloc _).drew) (fail)
     obtain⟨W3,hW3⟩:∃W3,(WA.alloc (.cells #[.int .i64 2,.int .i64 ((c0:Int)+1),.int .i64 (k:Int),.slice At nt ct] 40)).drew=W3:=⟨_,rfl⟩
     rw[hW3]
     have k3:Kp [] WA W3:=by rw[<-hW3];exact((Kp.refl [] WA).alloc _).drew
     have hR3:W3.heap[WA.heap.size]?=some (.cells #[.int .i64 2,.int .i64 ((c0:Int)+1),.int .i64 (k:Int),.slice At nt ct] 40 (0,0)):=by rw[<-hW3];exact heap_alloc_new WA _
     obtain⟨R,hRe⟩:∃R,WA.heap.size=R:=⟨_,rfl⟩
     rw[hRe] at hR3
     have r0:=bkc hR3 0 rfl
     have r1:=bkc hR3 1 rfl
     have r3:=bkc hR3 3 rfl
     have fR:=blk_free hR3
     have a0:=bkc (k3.blk HJA.out.hd (by simp)) 0 rfl
     have a1:=bkc (k3.blk HJA.out.hd (by simp)) 1 rfl
     have a2:=bkc (k3.blk HJA.out.hd (by simp)) 2 rfl
     rw[HKD.out] at a0
     rw[HKEY.out] at a1
     have HK3:=As.mk k3
     have HR3:=As.mk hR3
     clear KX hW3 k3 hR3
     rw[hRe]
     obtain⟨wk,hwk⟩:∃wk,wkind j=wk:=⟨_,rfl⟩
     obtain⟨jd,hjd⟩:∃jd,jdata cf s.ended j=jd:=⟨_,rfl⟩
     have HWK:=As.mk (And.intro hwk hjd)
     clear hwk hjd
     go_upto_block 2 with fail
     go_cut [] from 64 to 95 (fun wx=>∃(AD:Option Addr) (nd cd:Nat) (w4:World),w4=wx/\w4.cell? ⟨R,0,none⟩=some (.int .i64 wk)/\w4.cell? ⟨R,1,none⟩=some (.int .i64 ((c0:Int)+1))/\w4.cell? ⟨R,2,none⟩=some (.int .i64 (k:Int))/\w4.cell? ⟨R,3,none⟩=some (.slice AD nd cd)/\
      As (Rd w4 AD (iv .u8 jd)/\jd.length=nd/\(AD=none->cd=0)/\Kp [R] W3 w4))
     case first=>
      have hk4:(kd=1\/kd=2)\/kd=3\/kd=4:=by
       have h1:=HJ.out.kind
       have h2:=HKD.out
       omega
      have hR3:=HR3.out
      have HTD:As (RdS [R] W3 At (iv .u8 j.text)/\(At=none->ct=0)):=⟨by
       obtain⟨A9,c9,e9,h9,_,_,n9⟩:=HB.out.tx
       cases e9
       refine⟨?_,n9⟩
       have r1:=(h9.kp HKA.out (fun x hx=> ?_))
       ·exact RdS.new r1.rd HK3.out (fun x hx=>by simp at hx;omega)
       ·simp only[List.mem_singleton] at hx
        subst hx
        exact .inl (List.mem_cons_of_mem _ (List.mem_append.2 (.inr (List.mem_append.2 (.inl (by rw[<-HB.out.gr.1];exact RLay.mem.2 (.inl rfl)))))))⟩
      rcases hk4 with hk12|rfl|rfl
      ·have hlR:=lt_of_block hR3
       obtain⟨WS,hWS⟩:∃WS,W3.setCell ⟨R,0,none⟩ (.int .i64 1)=WS:=⟨_,rfl⟩
       have hRs:=heap_setCell_same W3 R 0 _ _ (.int .i64 1) hR3
       rw[hWS] at hRs
       have kRs:Kp [R] W3 WS:=by rw[<-hWS];exact(Kp.refl [R] W3).setCell (.inl (by simp)) _
       have hjR:jb≠R:=by have:=lt_of_block HJA.out.hd;omega
       have hbR:L.b≠R:=by have:=lt_of_block HDA.out;omega
       have hdS:=kRs.blk (HK3.out.blk HDA.out (by simp)) (by simpa using hbR)
       have hjS:=kRs.blk (HK3.out.blk HJA.out.hd (by simp)) (by simpa using hjR)
       have KX2:As (∀wX,Kp [R] WS wX->wX.cell? ⟨L.b,0,none⟩=some (.int .i64 (cf.id:Int))/\wX.cell? ⟨L.b,6,none⟩=some (.int .i64 (t:Int))/\wX.cell? ⟨jb,0,none⟩=some (.int .i64 kd)/\wX.cell? ⟨jb,1,none⟩=some (.string key)/\wX.cell? ⟨jb,2,none⟩=some (.slice At nt ct)):=⟨fun wX kX=>by
        have h1:=kX.blk hdS (by simpa using hbR)
        have h2:=kX.blk hjS (by simpa using hjR)
        rw[HKD.out,HKEY.out] at h2
        have h3:=bkc h1 6 (v:= .int .i64 ((bR cf s j fr k).ended:Int)) rfl
        rw[show(bR cf s j fr k).ended=t from HT.out] at h3
        exact⟨bkc h1 0 rfl,h3,bkc h2 0 rfl,bkc h2 1 rfl,bkc h2 2 rfl⟩⟩
       have HEN:As (∀wX,Kp [] WS wX->Calls Tryz.prog 39 #[.agg #[.int .i64 kd,.int .i64 (cf.id:Int),.int .i64 ((t:Int)+1),.string key,.slice At nt ct]] wX fun e w'=>∃A2 n2 c2,e= .returned (.tuple #[.slice A2 n2 c2,.int .i64 0])/\w'.cell? ⟨R,3,none⟩=some (.slice At nt ct)/\w'.frozen? ⟨R,3,none⟩=false/\
        As (Kp [] WS w')/\As (∃(AD:Option Addr) (nd cd:Nat) (w4:World),w4=w'.setCell ⟨R,3,none⟩ (.slice A2 n2 c2)/\w4.cell? ⟨R,0,none⟩=some (.int .i64 wk)/\w4.cell? ⟨R,1,none⟩=some (.int .i64 ((c0:Int)+1))/\w4.cell? ⟨R,2,none⟩=some (.int .i64 (k:Int))/\w4.cell? ⟨R,3,none⟩=some (.slice AD nd cd)/\
         As (Rd w4 AD (iv .u8 jd)/\jd.length=nd/\(AD=none->cd=0)/\Kp [R] W3 w4))):=⟨fun wX kX=>by
        have hid:=HOK.out.cfg.id
        have hjk:=HKD.out
        have htt:=HT.out
        have hkt:=HJ.out.key
        have htx:=HJ.out.text
        have hx0:=HX.out
        have hnt:=HNT.out
        have hkey:=HKEY.out
        have hw1:(within1 (cf.id:Int)&&within1 ((t:Int)+1))=true:=by simp only[within1,Bool.and_eq_true,decide_eq_true_eq];omega
        have hoe:opErr kd cf.id ((t:Int)+1) key.size j.text.length=0:=opErr_ne.2 ⟨hk12.imp id (fun e=>⟨e,by rw[hx0 (by omega)];simp⟩),hw1,by rw[<-hkey];exact hkt (by omega),htx.1⟩
        have hjd:jd=opBytes kd cf.id ((t:Int)+1) key j.text:=by
         rw[<-HWK.out.2,jdata,htt,hkey]
         rcases hk12 with e|e
         ·rw[if_pos (by omega),e]
         ·rw[if_neg (by omega),if_pos (by omega),e,hx0 (by omega)]
        have hwk:wk=1:=by
         rw[<-HWK.out.1,wkind]
         rcases hk12 with e|e
         ·rw[if_pos (by omega)]
         ·rw[if_neg (by omega),if_pos (by omega)]
        have hrt:Rd wX At (iv .u8 j.text):=((HTD.out.1.kp kRs (fun x hx=> .inl hx)).kp kX (by simp)).rd
        refine(ref13.encode_any kd cf.id ((t:Int)+1) key At nt ct j.text wX hnt hrt HTD.out.2 (by omega)).mono ?_
        rintro e w' ⟨v,rfl,ho,hkk⟩
        rw[hoe] at ho⊢
        rw[if_pos rfl,<-hjd] at ho
        obtain⟨A2,c2,rfl,g1,g2,g3,g4⟩:=own_rd ho.1
        have kW:=kX.trans hkk (by simp)
        have hR':=kW.blk hRs (by simp)
        have hd3:=heap_setCell_same w' R 3 _ _ (.slice A2 jd.length c2) hR'
        have kS:Kp [R] w' (w'.setCell ⟨R,3,none⟩ (.slice A2 jd.length c2)):=(Kp.refl [R] w').setCell (.inl (by simp)) _
        rw[hwk]
        refine⟨A2,_,c2,rfl,bkc hR' 3 rfl,blk_free hR' 3,⟨kW⟩,⟨_,_,_,_,rfl,bkc hd3 0 rfl,bkc hd3 1 rfl,bkc hd3 2 rfl,bkc hd3 3 rfl,⟨?_,rfl,g4,(kRs.trans kW (by simp)).trans kS (fun x hx=> .inl hx)⟩⟩⟩
        refine kS.rd g3 (fun a ha hm=> ?_)
        simp only[List.mem_singleton] at hm
        have h5:=ho.2 a.block (by rw[ha];rfl)
        have h6:=lt_of_block (kX.blk hRs (by simp))
        omega⟩
       have p0:=r0
       have f0:=fR 0
       clear fR hRs kRs hdS hjS hR3 r3 a0 a1 a2 r1
       rcases hk12 with rfl|rfl
       ·go_upto_region 16 with fail
        have it:IntKind.i64.wrap ((t:Int)+1)=(t:Int)+1:=by rw[IntKind.wrap_i64];omega
        go_region_held3 (fun wX=>wX.cell? ⟨L.b,0,none⟩=some (.int .i64 (cf.id:Int))/\wX.cell? ⟨L.b,6,none⟩=some (.int .i64 (t:Int))/\wX.cell? ⟨jb,0,none⟩=some (.int .i64 1)/\wX.cell? ⟨jb,1,none⟩=some (.string key)/\wX.cell? ⟨jb,2,none⟩=some (.slice At nt ct))
         (first|exact KX2.out _ (Kp.refl _ _)|exact KX2.out _ (Kp.refl _ _).drew|exact KX2.out _ ((Kp.refl _ _).drewN _)|exact KX2.out _ (HK6.out.mono (by simp))|exact KX2.out _ ((HK6.out.mono (T:=[R]) (by simp)).drewN _)|exact KX2.out _ ((HK6.out.mono (T:=[R]) (by simp)).setCell (.inl (by simp)) _)|exact KX2.out _ (((HK6.out.mono (T:=[R]) (by simp)).setCell (.inl (by simp)) _).drew))
         (first|(go_at_call 39;refine(HEN.out _ (by first|exact Kp.refl [] _|exact(Kp.refl [] _).drew|exact(Kp.refl [] _).drewN _)).mono ?_;rintro e w6 ⟨A2,n2,c2,rfl,z3,y3,HK6,HZ6⟩))
        go_wp2_with fail
        go_meet
        exact HZ6.out
       ·go_upto_region 16 with fail
        have it:IntKind.i64.wrap ((t:Int)+1)=(t:Int)+1:=by rw[IntKind.wrap_i64];omega
        go_region_held3 (fun wX=>wX.cell? ⟨L.b,0,none⟩=some (.int .i64 (cf.id:Int))/\wX.cell? ⟨L.b,6,none⟩=some (.int .i64 (t:Int))/\wX.cell? ⟨jb,0,none⟩=some (.int .i64 2)/\wX.cell? ⟨jb,1,none⟩=some (.string key)/\wX.cell? ⟨jb,2,none⟩=some (.slice At nt ct))
         (first|exact KX2.out _ (Kp.refl _ _)|exact KX2.out _ (Kp.refl _ _).drew|exact KX2.out _ ((Kp.refl _ _).drewN _)|exact KX2.out _ (HK6.out.mono (by simp))|exact KX2.out _ ((HK6.out.mono (T:=[R]) (by simp)).drewN _)|exact KX2.out _ ((HK6.out.mono (T:=[R]) (by simp)).setCell (.inl (by simp)) _)|exact KX2.out _ (((HK6.out.mono (T:=[R]) (by simp)).setCell (.inl (by simp)) _).drew))
         (first|(go_at_call 39;refine(HEN.out _ (by first|exact Kp.refl [] _|exact(Kp.refl [] _).drew|exact(Kp.refl [] _).drewN _)).mono ?_;rintro e w6 ⟨A2,n2,c2,rfl,z3,y3,HK6,HZ6⟩))
        go_wp2_with fail
        go_meet
        exact HZ6.out
      ·have hlR:=lt_of_block hR3
       obtain⟨W3s,hW3s⟩:∃W3s,W3.setCell ⟨R,0,none⟩ (.int .i64 3)=W3s:=⟨_,rfl⟩
       have hRs:=heap_setCell_same W3 R 0 _ _ (.int .i64 3) hR3
       rw[hW3s] at hRs
       have ss:W3s.heap.size=W3.heap.size:=by rw[<-hW3s];simp
       have kRs:Kp [R] W3 W3s:=by rw[<-hW3s];exact(Kp.refl [R] W3).setCell (.inl (by simp)) _
       obtain⟨WB,hWB⟩:∃WB,Lib.bytesWorld W3.drew 5 key=WB:=⟨_,rfl⟩
       obtain⟨WC,hWC⟩:∃WC,Lib.bytesWorld W3s.drew 5 key=WC:=⟨_,rfl⟩
       have hcv:=Lib.run_convert_string_bytes (P:=Tryz.prog) W3.drew 9 24 5 key Tryz.underlying9 Tryz.underlying24 Tryz.underlying5
       have hcw:=Lib.run_convert_string_bytes (P:=Tryz.prog) W3s.drew 9 24 5 key Tryz.underlying9 Tryz.underlying24 Tryz.underlying5
       rw[hWB] at hcv
       rw[hWC] at hcw
       have kB:Kp [] W3 WB:=by rw[<-hWB];exact kp_bytes (Kp.refl [] W3).drew _ _
       have kC:Kp [] W3s WC:=by rw[<-hWC];exact kp_bytes (Kp.refl [] W3s).drew _ _
       have hRB:=kB.blk hR3 (by simp)
       have hRC:=kC.blk hRs (by simp)
       have HRD:As (RdS [R] WB (some ⟨W3.heap.size,0,none⟩) (iv .u8 (kb key))/\RdS [R] WC (some ⟨W3s.heap.size,0,none⟩) (iv .u8 (kb key))):=⟨by rw[<-hWB];exact rds_bytes W3.drew _ key (fun x hx=>by simp at hx;rw[hx];exact hlR),by rw[<-hWC];exact rds_bytes W3s.drew _ key (fun x hx=>by simp at hx;rw[hx];show R<W3s.heap.size;omega)⟩
       obtain⟨mk,hmk⟩:∃mk,key.size=mk:=⟨_,rfl⟩
       rw[hmk] at hcv hcw
       have HMK:=As.mk hmk
       have p0:=bkc hRB 0 rfl
       have p3:=bkc hRB 3 rfl
       have f0:=blk_free hRB 0
       have f3:=blk_free hRB 3
       have v3:=bkc hRC 3 rfl
       have hjR:jb≠R:=by have:=lt_of_block HJA.out.hd;omega
       have a1s:=kRs.cell a1 (by simpa using hjR)
       have u3:=blk_free hRC 3
       have fR0:=fR 0
       have HKB:=As.mk kB
       have HKC:=As.mk (kRs.trans kC (by simp))
       have HRB:=As.mk hRB
       have HRC:=As.mk hRC
       have hk3:j.kind=3:=by have:=HKD.out;omega
       have HE:=As.mk (And.intro (show wk=3 by rw[<-HWK.out.1,wkind,if_neg (by omega),if_neg (by omega),if_pos hk3]) (show jd=kb key by rw[<-HWK.out.2,jdata,if_neg (by omega),if_neg (by omega),if_pos hk3,HKEY.out]))
       have HF:As (∀(X:World) (base cp:Nat),X.heap[R]?=some (.cells #[.int .i64 3,.int .i64 ((c0:Int)+1),.int .i64 (k:Int),.slice At nt ct] 40 (0,0))->RdS [R] X (some ⟨base,0,none⟩) (iv .u8 (kb key))->Kp [R] W3 X->
        ∃(AD:Option Addr) (nd cd:Nat) (w4:World),w4=X.setCell ⟨R,3,none⟩ (.slice (some ⟨base,0,none⟩) mk cp)/\w4.cell? ⟨R,0,none⟩=some (.int .i64 wk)/\w4.cell? ⟨R,1,none⟩=some (.int .i64 ((c0:Int)+1))/\w4.cell? ⟨R,2,none⟩=some (.int .i64 (k:Int))/\w4.cell? ⟨R,3,none⟩=some (.slice AD nd cd)/\
         As (Rd w4 AD (iv .u8 jd)/\jd.length=nd/\(AD=none->cd=0)/\Kp [R] W3 w4)):=⟨fun X base cp hX hr kX=>by
        have hd3:=heap_setCell_same X R 3 _ _ (.slice (some ⟨base,0,none⟩) mk cp) hX
        have kS:Kp [R] X (X.setCell ⟨R,3,none⟩ (.slice (some ⟨base,0,none⟩) mk cp)):=(Kp.refl [R] X).setCell (.inl (by simp)) _
        rw[HE.out.1,HE.out.2]
        exact⟨_,_,_,_,rfl,bkc hd3 0 rfl,bkc hd3 1 rfl,bkc hd3 2 rfl,bkc hd3 3 rfl,⟨(hr.kp kS (fun x hx=> .inl hx)).rd,by rw[kb_len,HMK.out],(by intro e;cases e),kX.trans kS (fun x hx=> .inl hx)⟩⟩⟩
       clear fR hR3 hWB hWC kB kC hRB hRC hRs hmk kRs ss hk3
       go_upto_region 18 with fail
       go_region_law (fail)
       all_goals
        go_wp2_with fail
        go_meet
        first
         |exact HF.out (WB.setCell ⟨R,0,none⟩ (.int .i64 3)) _ _ (heap_setCell_same WB R 0 _ _ (.int .i64 3) HRB.out) (HRD.out.1.kp ((Kp.refl [R] WB).setCell (.inl (by simp)) _) (fun x hx=> .inl hx)) ((HKB.out.mono (by simp)).trans ((Kp.refl [R] WB).setCell (.inl (by simp)) _) (fun x hx=> .inl hx))
         |exact HF.out WC _ _ HRC.out HRD.out.2 HKC.out
      ·clear fR
       go_wp2_with fail
       go_meet
       have hk4:j.kind=4:=by have:=HKD.out;omega
       have e1:wk=2:=by rw[<-HWK.out.1,wkind,if_neg (by omega),if_neg (by omega),if_neg (by omega)]
       have e2:jd=j.text:=by rw[<-HWK.out.2,jdata,if_neg (by omega),if_neg (by omega),if_neg (by omega)]
       refine⟨At,nt,ct,_,rfl, ?_,bkc hR3 1 rfl,bkc hR3 2 rfl,bkc hR3 3 rfl,⟨?_, ?_,HTD.out.2,Kp.refl _ _⟩⟩
       ·rw[e1]
        exact bkc hR3 0 rfl
       ·rw[e2]
        exact HTD.out.1.rd
       ·rw[e2,HNT.out]
     case rest=>
      obtain⟨AD,nd,cd,w4,rfl,r0,r1,r2,r3,HD⟩:=hcut
      have hB1:=HB.out.ctx
      rw[hbL,show(bR cf s j fr k).ctx=c0 from HC0.out,<-HWA.out] at hB1
      have hlR:WA.heap.size<=R:=by omega
      have hB4:=hB1.kp0 (HK3.out.trans HD.out.2.2.2 (fun x hx=> .inr (by simp at hx;omega))|>.mono (by simp))
      obtain⟨frm,hfrm⟩:∃f,frameOf cf s.ended j (c0+1) k=f:=⟨_,rfl⟩
      obtain⟨NF,hNF⟩:∃n,frm.length=n:=⟨_,rfl⟩
      obtain⟨A0,hA0⟩:∃A0,w4.heap.size=A0:=⟨_,rfl⟩
      obtain⟨d,hd0⟩:∃d,dest cf s.whom k=d:=⟨_,rfl⟩
      have hkn:k<cf.shards.length:=by rw[HN.out];omega
      have hjdl:=jdata_len (cf:=cf) (num:=s.ended) HJ.out
      rw[HWK.out.2] at hjdl
      have hfr:fEnc (pay 113 [wk,(c0:Int)+1,(k:Int)] jd)=frm:=by rw[<-hfrm,frameOf,HWK.out.1,HWK.out.2];rfl
      have hpl:=pay_len 113 [wk,(c0:Int)+1,(k:Int)] jd (by simp)
      have hNl:NF=(pay 113 [wk,(c0:Int)+1,(k:Int)] jd).length+12:=by rw[<-hNF,<-hfr,fEnc_len]
      have hNF9:NF<=10000:=by omega
      have hwkb:1<=wk/\wk<=4:=by
       have:=wkind_rq HJ.out 0 0 (by omega) (by omega)
       rw[HWK.out.1] at this
       have:=ref22.rqOk_iff.1 this
       omega
      obtain⟨κ4,VS4,VW4,VL4,VA4,VD4,hp4⟩:=id hB4.st
      have hd4:=hp4.hd
      rw[hbL] at hd4
      have b8:w4.cell? ⟨L.b,8,none⟩=some (.int .i64 ((c0:Int)+1)):=bkc hd4 8 rfl
      have lb4:=lt_of_block hd4
      have nb4:¬L.b=A0:=by omega
      have hB5:=hB4.kp0 ((Kp.refl [] w4).alloc (.cells #[.int .i64 (k:Int),.int .i64 ((c0:Int)+1),.slice none 0 0,.int .i64 1,.int .i64 0,.bool false,.bool false,.bool false,.bool false,.slice none 0 0,.slice none 0 0] 171))
      have hq5:=heap_alloc_new w4 (.cells #[.int .i64 (k:Int),.int .i64 ((c0:Int)+1),.slice none 0 0,.int .i64 1,.int .i64 0,.bool false,.bool false,.bool false,.bool false,.slice none 0 0,.slice none 0 0] 171)
      rw[hA0] at hq5
      have HEC:As (Calls Tryz.prog 122 #[.agg #[.int .i64 wk,.int .i64 ((c0:Int)+1),.int .i64 (k:Int),.slice AD nd cd]] (w4.alloc (.cells #[.int .i64 (k:Int),.int .i64 ((c0:Int)+1),.slice none 0 0,.int .i64 1,.int .i64 0,.bool false,.bool false,.bool false,.bool false,.slice none 0 0,.slice none 0 0] 171)) fun e w6=>∃AF cF,e= .returned (.tuple #[.slice AF NF cF,.int .i64 0])/\w6.cell? ⟨A0,2,none⟩=some (.slice none 0 0)/\w6.frozen? ⟨A0,2,none⟩=false/\
       As (Own 5 .u8 w6 (A0+1) (.slice AF NF cF) frm/\Kp [] (w4.alloc (.cells #[.int .i64 (k:Int),.int .i64 ((c0:Int)+1),.slice none 0 0,.int .i64 1,.int .i64 0,.bool false,.bool false,.bool false,.bool false,.slice none 0 0,.slice none 0 0] 171)) w6)):=⟨by
       refine(ref22.encReq_ok wk ((c0:Int)+1) (k:Int) AD nd cd jd _ HD.out.2.1 (((Kp.refl [] w4).alloc _).rd_new HD.out.1 (by simp)) HD.out.2.2.1 hjdl.2 (by have:=HD.out.2.1;omega) hwkb (by omega) (by omega) NF hNl).mono ?_
       rintro e w6 ⟨AF,cF,rfl,hacc,_⟩
       have hq6:=hacc.kp.blk hq5 (by simp)
       rw[hfr] at hacc
       refine⟨AF,cF,rfl,bkc hq6 2 rfl,blk_free hq6 2,⟨⟨by rw[hNF];exact hacc.own,fun g hg=>by have:=hacc.lo g hg;simp at this;omega⟩,hacc.kp⟩⟩⟩
      have HSN:As (∀w6 AF cF,Own 5 .u8 w6 (A0+1) (.slice AF NF cF) frm/\Kp [] (w4.alloc (.cells #[.int .i64 (k:Int),.int .i64 ((c0:Int)+1),.slice none 0 0,.int .i64 1,.int .i64 0,.bool false,.bool false,.bool false,.bool false,.slice none 0 0,.slice none 0 0] 171)) w6->Calls Tryz.prog 99 #[.pointer (some ⟨L.b,0,none⟩),.pointer (some ⟨A0,0,none⟩)] (w6.setCell ⟨A0,2,none⟩ (.slice AF NF cF)) fun e w8=>∃A2 c2,e= .returned (.agg #[.int .i64 (cf.id:Int),.int .i64 d,.slice A2 NF c2])/\
       As (w8.heap[A0]?=some (.cells #[.int .i64 (k:Int),.int .i64 ((c0:Int)+1),.slice AF NF cF,.int .i64 1,.int .i64 0,.bool false,.bool false,.bool false,.bool false,.slice none 0 0,.slice none 0 0] 171 (0,0))/\BgS U L cf {bR cf s j fr k with ctx:=c0+1} ((bR cf s j fr k).asks.map (msgOf cf s.whom)) j w jb At nt ct (.slice A6 m c6) Lk w8/\Own 5 .u8 w8 (A0+1) (.slice AF NF cF) frm/\Own 5 .u8 w8 (A0+1) (.slice A2 NF c2) frm/\Kp [] w4 w8)):=⟨fun w6 AF cF ⟨h6,k6⟩=>by
       have hB6:=hB5.kp0 k6
       have hq6:=k6.blk hq5 (by simp)
       obtain⟨κ6,VS6,VW6,VL6,VA6,VD6,hp6⟩:=id hB6.st
       have hd6:=hp6.hd
       rw[hbL] at hd6
       obtain⟨cw,e6,cw6,_,_⟩:=hp6.whom (by show s.whom.length=_;exact HOK.out.wlen) hkn
       have hA6:∀x,x∈Lk.all->x≠A0:=fun x hx e=>by
        have:=hB4.st.lt x (List.mem_append.2 (.inl hx))
        omega
       have kS:Kp [A0] w6 (w6.setCell ⟨A0,2,none⟩ (.slice AF NF cF)):=(Kp.refl [A0] w6).setCell (.inl (by simp)) _
       have hq7:=heap_setCell_same w6 A0 2 _ _ (.slice AF NF cF) hq6
       have nA:(A0:Nat)∉(Value.slice AF NF cF).ownBlock.toList:=fun e=>by
        have:=h6.2 A0 (by simpa using e)
        omega
       have hnb:A0≠L.b:=fun e=>by omega
       have hgwm:Lk.gw∈Lk.all:=RLay.mem.2 (.inr (.inl rfl))
       have hngw:A0≠Lk.gw:=fun e=>hA6 _ hgwm e.symm
       have o7:=h6.kp kS (fun g e hm=>by simp at hm;have:=h6.2 g e;omega)
       have hrd:RdS [A0] (w6.setCell ⟨A0,2,none⟩ (.slice AF NF cF)) AF (iv .u8 frm):=o7.rds (fun x hx=>by simp at hx;omega)
       have hnil:AF=none->cF=0:=by
        obtain⟨A9,c9,e9,_,_,_,n9⟩:=own_rd o7.1
        cases e9
        exact n9
       have hd7:=kS.blk hd6 (by simpa using hnb.symm)
       have hsa:=sends_at (w6.setCell ⟨A0,2,none⟩ (.slice AF NF cF)) L.b A0 0 Lk.gw k (cf.id:Int) d AF NF cF frm
        ⟨bkc hd7 0 rfl,⟨cf.shards.length,cw,hkn,by have:=hn9;rw[HN.out];omega,by rw[e6] at hd7;exact bkc hd7 4 rfl⟩,by
         have:=kS.cell cw6 (by simpa using hngw.symm)
         rw[<-hd0]
         exact this,bkc hq7 0 rfl,bkc hq7 2 rfl,⟨_,bkc hq7 4 rfl⟩,blk_free hq7 4,hrd,hNF,hnil,hnb,hngw⟩ (by omega)
       refine hsa.mono ?_
       rintro e w8 ⟨A2,c2,rfl,H8⟩
       have kS2:Kp [A0] (w6.setCell ⟨A0,2,none⟩ (.slice AF NF cF)) ((w6.setCell ⟨A0,2,none⟩ (.slice AF NF cF)).setCell ⟨A0,0+4,none⟩ (.int .i64 0)):=(Kp.refl [A0] _).setCell (.inl (by simp)) _
       have hq8:=H8.out.2.blk (heap_setCell_same _ A0 (0+4) _ _ (.int .i64 0) hq7) (by simp)
       have k48:Kp [A0] w4 w8:=(((((Kp.refl [A0] w4).alloc _).trans k6 (by simp)).trans kS (fun x hx=> .inl hx)).trans kS2 (fun x hx=> .inl hx)).trans H8.out.2 (by simp)
       have k48':Kp [] w4 w8:=k48.mono (fun x hx=> .inr (by simp at hx;omega))
       refine⟨A2,c2,rfl,⟨hq8,hB4.kp0 k48', ?_,H8.out.1.lower ?_,k48'⟩⟩
       ·exact(o7.kp kS2 (fun g e hm=>by simp at hm;have:=h6.2 g e;omega)).kp H8.out.2 (by simp)
       ·have:=k6.size
        simp at this⊢
        omega⟩
      obtain⟨vs9,hov,hvn,hmv⟩:=id HB.out.out
      obtain⟨A9,c9,e9,_⟩:=own_rd hov
      have hml:((bR cf s j fr k).asks.map (msgOf cf s.whom)).length=m:=by cases e9;rfl
      rw[hml] at hov
      have hm9:m<=8:=by
       have h1:=bR_len (cf:=cf) (s:=s) (j:=j) (fr:=fr) (k:=k)
       rw[List.length_map] at hml
       omega
      obtain⟨na,hna⟩:∃na,(bR cf s j fr k).asks.length=na:=⟨_,rfl⟩
      have hna9:na<=8:=by
       have h1:=bR_len (cf:=cf) (s:=s) (j:=j) (fr:=fr) (k:=k)
       omega
      have k04:Kp [L.b] wr w4:=HKA.out.trans (HK3.out.trans HD.out.2.2.2 (fun x hx=> .inr (by simp at hx;omega))) (by simp)
      have hovn:∀g,(Value.slice A6 m c6).ownBlock=some g->g∉[L.b]:=fun g e hm=>by
       simp at hm
       subst hm
       exact hvn _ e (by rw[<-hbL];simp[RLay.mem])
      have HO9:As (∀w8 AF cF A2 c2,(w8.heap[A0]?=some (.cells #[.int .i64 (k:Int),.int .i64 ((c0:Int)+1),.slice AF NF cF,.int .i64 1,.int .i64 0,.bool false,.bool false,.bool false,.bool false,.slice none 0 0,.slice none 0 0] 171 (0,0))/\BgS U L cf {bR cf s j fr k with ctx:=c0+1} ((bR cf s j fr k).asks.map (msgOf cf s.whom)) j w jb At nt ct (.slice A6 m c6) Lk w8/\Own 5 .u8 w8 (A0+1) (.slice AF NF cF) frm/\Own 5 .u8 w8 (A0+1) (.slice A2 NF c2) frm)->Kp [] w4 w8->
       ((w8.alloc (.cells #[.int .i64 (cf.id:Int),.int .i64 d,.slice A2 NF c2] 44)).ownsRow 0 44 3 (.slice A6 m c6) m vs9)/\∀v9 w9,w9.ownsRow 0 44 3 v9 (m+1) (vs9++[.int .i64 (cf.id:Int),.int .i64 d,.slice A2 NF c2])->Kp (Value.slice A6 m c6).ownBlock.toList (w8.alloc (.cells #[.int .i64 (cf.id:Int),.int .i64 d,.slice A2 NF c2] 44)) w9->H.At (w8.heap.size+1) (Value.slice A6 m c6).ownBlock v9.ownBlock->
         ∃A9 c9,v9= .slice A9 (m+1) c9/\As (BgS U L cf {bR cf s j fr k with ctx:=c0+1} ((bR cf s j fr (k+1)).asks.map (msgOf cf s.whom)) j w jb At nt ct (.slice A9 (m+1) c9) Lk w9/\w9.heap[A0]?=some (.cells #[.int .i64 (k:Int),.int .i64 ((c0:Int)+1),.slice AF NF cF,.int .i64 1,.int .i64 0,.bool false,.bool false,.bool false,.bool false,.slice none 0 0,.slice none 0 0] 171 (0,0))/\BSl (Lk.all++(jb::((Value.slice A9 (m+1) c9).ownBlock.toList++U))) w9 (.slice AF NF cF) frm)):=⟨fun w8 AF cF A2 c2 h8 k8=>by
       have k08:=k04.trans k8 (by simp)
       refine⟨(k08.own hov hovn).alloc _,fun v9 w9 o9 k9 a9=> ?_⟩
       have hlt8:=h8.2.1.lt
       have hmv8:=hmv.kp k08 (fun x hx=> .inl (by simp at hx;subst hx;rw[<-hbL];simp[RLay.mem])) (fun x hx=> .inl hx)
       have hA0:A0∉(Value.slice A6 m c6).ownBlock.toList:=fun e=>by
        have e2:(Value.slice A6 m c6).ownBlock=some A0:=by simpa using e
        have:=own_lt (k04.own hov hovn) A0 e2
        omega
       have hs:=h8.2.1.send (m:=⟨cf.id,d,frm⟩) hml hmv8 (BSl.own h8.2.2.2 ?_) o9 k9 a9
       ·obtain⟨A9,c9,rfl,_⟩:=own_rd o9
        have kA:Kp (Value.slice A6 m c6).ownBlock.toList w8 w9:=((Kp.refl _ w8).alloc _).trans k9 (fun x hx=> .inl hx)
        have hg9:∀g,(Value.slice A9 (m+1) c9).ownBlock=some g->(Value.slice A6 m c6).ownBlock=some g\/w8.heap.size<=g:=fun g e=>by
         rcases a9 with e2|⟨y,e2,hy⟩
         ·rw[e2] at e;exact .inl e
         ·rw[e2] at e
          cases e
          exact .inr (by omega)
        refine⟨A9,c9,rfl,⟨?_,kA.blk h8.1 hA0,(BSl.own (S:=Lk.all++(jb::((Value.slice A6 m c6).ownBlock.toList++U))) h8.2.2.1 (fun x hx=> .inl ?_)).kp kA (fun x hx=> .inl (by simp[hx])) (fun x hx=> ?_)⟩⟩
        ·rw[bR_asks hk1,List.map_append,List.map_cons,List.map_nil,HC0.out]
         have e:msgOf cf s.whom (newAsk cf s.ended j 1 (c0+1) k)=⟨cf.id,d,frm⟩:=by
          simp only[msgOf,newAsk,hd0,hfrm]
         rw[e]
         exact hs
        ·have:=hB4.lt x (by simp only[List.mem_cons,List.mem_append] at hx⊢;rcases hx with e|e|e|e<;>simp[e])
         omega
        ·simp only[List.mem_cons,List.mem_append,Option.mem_toList] at hx⊢
         rcases hx with e|e|e|e
         ·exact .inl (.inl e)
         ·exact .inl (.inr (.inl e))
         ·exact(hg9 x e).imp (fun e=> .inr (.inr (.inl e))) id
         ·exact .inl (.inr (.inr (.inr e)))
       ·intro x hx
        refine .inl ?_
        have:=hB4.lt x (by simp only[List.mem_cons,List.mem_append] at hx⊢;rcases hx with e|e|e|e<;>simp[e])
        omega⟩
      have HM9:As (∀w9 A9 c9 AF cF,BgS U L cf {bR cf s j fr k with ctx:=c0+1} ((bR cf s j fr (k+1)).asks.map (msgOf cf s.whom)) j w jb At nt ct (.slice A9 (m+1) c9) Lk w9/\w9.heap[A0]?=some (.cells #[.int .i64 (k:Int),.int .i64 ((c0:Int)+1),.slice AF NF cF,.int .i64 1,.int .i64 0,.bool false,.bool false,.bool false,.bool false,.slice none 0 0,.slice none 0 0] 171 (0,0))/\BSl (Lk.all++(jb::((Value.slice A9 (m+1) c9).ownBlock.toList++U))) w9 (.slice AF NF cF) frm->
       ∃AA cA us,w9.cell? ⟨L.b,7,none⟩=some (.slice AA na cA)/\As (∀q,((w9.drewN q).alloc (.cells #[.int .i64 (k:Int),.int .i64 ((c0:Int)+1),.slice AF NF cF,.int .i64 1,.int .i64 0,.bool false,.bool false,.bool false,.bool false,.slice none 0 0,.slice none 0 0] 171)).ownsRow 0 171 11 (.slice AA na cA) na us)/\
        As (∀q v7 w7,w7.ownsRow 0 171 11 v7 (na+1) (us++[.int .i64 (k:Int),.int .i64 ((c0:Int)+1),.slice AF NF cF,.int .i64 1,.int .i64 0,.bool false,.bool false,.bool false,.bool false,.slice none 0 0,.slice none 0 0])->Kp (Value.slice AA na cA).ownBlock.toList ((w9.drewN q).alloc (.cells #[.int .i64 (k:Int),.int .i64 ((c0:Int)+1),.slice AF NF cF,.int .i64 1,.int .i64 0,.bool false,.bool false,.bool false,.bool false,.slice none 0 0,.slice none 0 0] 171)) w7->H.At (w9.heap.size+1) (Value.slice AA na cA).ownBlock v7.ownBlock->
         w7.cell? ⟨L.b,7,none⟩=some (.slice AA na cA)/\w7.frozen? ⟨L.b,7,none⟩=false/\As (∃L2,BgR U L cf s j fr w jb At nt ct (k+1) (.slice A9 (m+1) c9) L2 (w7.setCell ⟨L.b,7,none⟩ v7)))):=⟨fun w9 A9 c9 AF cF h9=>by
       obtain⟨AA,cA,us,g1,g2,g3⟩:=h9.1.more (fv:= .slice AF NF cF) (a:=newAsk cf s.ended j 1 (c0+1) k) ⟨rfl,rfl,rfl⟩
       rw[hbL] at g1
       have e0:({bR cf s j fr k with ctx:=c0+1}:Cs).asks.length=na:=hna
       rw[e0] at g1 g2 g3
       refine⟨AA,cA,us,g1,⟨fun q=>(g2 _ ((Kp.refl [] w9).drewN q)).alloc _⟩,⟨fun q v7 w7 o7 k7 a7=> ?_⟩⟩
       have hbs:BSl (Lk.all++(jb::((Value.slice A9 (m+1) c9).ownBlock.toList++U))) (w9.drewN q) (.slice AF NF cF) (newAsk cf s.ended j 1 (c0+1) k).frame:=by
        rw[show(newAsk cf s.ended j 1 (c0+1) k).frame=frm from hfrm]
        exact h9.2.2.kp ((Kp.refl [] w9).drewN q) (by simp) (fun x hx=> .inl hx)
       obtain⟨q1,q2,L2,q3⟩:=g3 (w9.drewN q) v7 w7 _ ((Kp.refl [] w9).drewN q) hbs o7 k7 (by simpa using a7)
       rw[hbL] at q1 q2 q3
       refine⟨q1,q2,⟨L2, ?_⟩⟩
       have e1:({({bR cf s j fr k with ctx:=c0+1}:Cs) with asks:=({bR cf s j fr k with ctx:=c0+1}:Cs).asks++[newAsk cf s.ended j 1 (c0+1) k]}:Cs)=bR cf s j fr (k+1):=by
        have e2:=bR_asks (cf:=cf) (s:=s) (j:=j) hk1
        rw[HC0.out] at e2
        show({whom:=s.whom,jobs:=s.jobs,ended:=s.ended,ctx:=c0+1,asks:=(bR cf s j fr k).asks++[newAsk cf s.ended j 1 (c0+1) k],done:=s.done}:Cs)=_
        rw[<-e2]
        have e3:c0+1=s.ctx+(k+1-fr):=by have:=HC0.out;omega
        rw[e3]
        rfl
       rw[e1] at q3
       exact q3⟩
      have hRl:R<w4.heap.size:=World.block_lt_of_cell? w4 _ r0
      have hRn:¬R=A0:=by omega
      have hRa:R<A0:=by omega
      have HSQ:As (∀w6 AF cF,Own 5 .u8 w6 (A0+1) (.slice AF NF cF) frm/\Kp [] (w4.alloc (.cells #[.int .i64 (k:Int),.int .i64 ((c0:Int)+1),.slice none 0 0,.int .i64 1,.int .i64 0,.bool false,.bool false,.bool false,.bool false,.slice none 0 0,.slice none 0 0] 171)) w6->Calls Tryz.prog 99 #[.pointer (some ⟨L.b,0,none⟩),.pointer (some ⟨A0,0,none⟩)] (w6.setCell ⟨A0,2,none⟩ (.slice AF NF cF)) fun e w8=>∃A2 c2,e= .returned (.agg #[.int .i64 (cf.id:Int),.int .i64 d,.slice A2 NF c2])/\
       As ((w8.alloc (.cells #[.int .i64 (cf.id:Int),.int .i64 d,.slice A2 NF c2] 44)).ownsRow 0 44 3 (.slice A6 m c6) m vs9)/\As (∀v9 w9,w9.ownsRow 0 44 3 v9 (m+1) (vs9++[.int .i64 (cf.id:Int),.int .i64 d,.slice A2 NF c2])->Kp (Value.slice A6 m c6).ownBlock.toList (w8.alloc (.cells #[.int .i64 (cf.id:Int),.int .i64 d,.slice A2 NF c2] 44)) w9->H.At (w8.heap.size+1) (Value.slice A6 m c6).ownBlock v9.ownBlock->
        ∃A9 c9 AA cA us,v9= .slice A9 (m+1) c9/\w9.cell? ⟨L.b,7,none⟩=some (.slice AA na cA)/\w9.heap[A0]?=some (.cells #[.int .i64 (k:Int),.int .i64 ((c0:Int)+1),.slice AF NF cF,.int .i64 1,.int .i64 0,.bool false,.bool false,.bool false,.bool false,.slice none 0 0,.slice none 0 0] 171 (0,0))/\As (∀q,((w9.drewN q).alloc (.cells #[.int .i64 (k:Int),.int .i64 ((c0:Int)+1),.slice AF NF cF,.int .i64 1,.int .i64 0,.bool false,.bool false,.bool false,.bool false,.slice none 0 0,.slice none 0 0] 171)).ownsRow 0 171 11 (.slice AA na cA) na us)/\
        As (∀q v7 w7,w7.ownsRow 0 171 11 v7 (na+1) (us++[.int .i64 (k:Int),.int .i64 ((c0:Int)+1),.slice AF NF cF,.int .i64 1,.int .i64 0,.bool false,.bool false,.bool false,.bool false,.slice none 0 0,.slice none 0 0])->Kp (Value.slice AA na cA).ownBlock.toList ((w9.drewN q).alloc (.cells #[.int .i64 (k:Int),.int .i64 ((c0:Int)+1),.slice AF NF cF,.int .i64 1,.int .i64 0,.bool false,.bool false,.bool false,.bool false,.slice none 0 0,.slice none 0 0] 171)) w7->H.At (w9.heap.size+1) (Value.slice AA na cA).ownBlock v7.ownBlock->
         w7.cell? ⟨L.b,7,none⟩=some (.slice AA na cA)/\w7.frozen? ⟨L.b,7,none⟩=false/\As (∃L2,BgR U L cf s j fr w jb At nt ct (k+1) (.slice A9 (m+1) c9) L2 (w7.setCell ⟨L.b,7,none⟩ v7))))):=⟨fun w6 AF cF h6=>by
       refine(HSN.out w6 AF cF h6).mono ?_
       rintro e w8 ⟨A2,c2,rfl,H8⟩
       have k48:Kp [] w4 w8:=H8.out.2.2.2.2
       have ho:=HO9.out w8 AF cF A2 c2 ⟨H8.out.1,H8.out.2.1,H8.out.2.2.1,H8.out.2.2.2.1⟩ k48
       refine⟨A2,c2,rfl,⟨ho.1⟩,⟨fun v9 w9 o9 k9 a9=> ?_⟩⟩
       obtain⟨A9,c9,rfl,H9⟩:=ho.2 v9 w9 o9 k9 a9
       obtain⟨AA,cA,us,g1,g2,g3⟩:=HM9.out w9 A9 c9 AF cF H9.out
       exact⟨A9,c9,AA,cA,us,rfl,g1,H9.out.2.1,g2,g3⟩⟩
      clear HSN HO9 HM9 hov hvn hmv hovn hml hna k04 hB1 hB4 hB5 hq5 hp4 hd4 hjdl hfr hpl hNl hfrm hNF hd0 HD HDA HJA HKA HK3 HR3 HWA HC0 HB a0 a1 a2 fR hkn e9
      go_upto_region 21 with(first
       |(go_at_call 122;refine HEC.out.mono ?_;rintro e w6 ⟨AF,cF,rfl,z2,y2,H6⟩;have HS6:=As.mk (HSQ.out w6 AF cF H6.out);clear HEC HSQ r0 r1 r2 r3 b8)
       |fail)
      clear H6 z2 y2
      go_upto_region 22 with(first
       |(go_at_call 99;refine HS6.out.mono ?_;rintro e w8 ⟨A2,c2,rfl,HO8,HP8⟩;clear HS6)
       |(at_builtin;refine wpList_app rfl (.tmp 108) (.tmp 111) 31 rfl 44 (.agg #[.int .i64 0,.int .i64 0,.slice none 0 0]) 3 40 Tryz.underlying31 info_msg rfl (by decide) (.slice A6 m c6) m vs9 rfl HO8.out (some ⟨w8.heap.size,0,none⟩) 1 1 [.int .i64 (cf.id:Int),.int .i64 d,.slice A2 NF c2] rfl rfl (rd_new w8 [.int .i64 (cf.id:Int),.int .i64 d,.slice A2 NF c2] 44) (by simp) (by simp[Value.oneCell']) (by omega) (by omega) ?_;intro v9 w9 o9 k9 a9 _;obtain⟨A9,c9,AA,cA,us,rfl,d7,hq9,HO10,HP10⟩:=HP8.out v9 w9 o9 k9 (by simpa using a9);clear o9 k9 a9 HO8 HP8)
       |fail)
      have l9:=lt_of_block hq9
      have n9:¬A0=w9.heap.size:=by omega
      have lb9:L.b<w9.heap.size:=World.block_lt_of_cell? w9 _ d7
      have nb9:¬L.b=w9.heap.size:=by omega
      have q0:=bkc hq9 0 rfl
      have q1:=bkc hq9 1 rfl
      have q2:=bkc hq9 2 rfl
      have q3:=bkc hq9 3 rfl
      have q4:=bkc hq9 4 rfl
      have q5:=bkc hq9 5 rfl
      have q6:=bkc hq9 6 rfl
      have q7:=bkc hq9 7 rfl
      have q8:=bkc hq9 8 rfl
      have q9:=bkc hq9 9 rfl
      have q10:=bkc hq9 10 rfl
      clear hq9 hA0 hRe hRn hRa hRl nb4 lb4
      go_region_law (refine step_app rfl (.tmp 117) (.tmp 119) 134 rfl 171 (.agg #[.int .i64 0,.int .i64 0,.slice none 0 0,.int .i64 0,.int .i64 0,.bool false,.bool false,.bool false,.bool false,.slice none 0 0,.slice none 0 0]) 11 112 Tryz.underlying134 info_rask rfl (by decide) (.slice AA na cA) na us rfl (HO10.out _) (some ⟨w9.heap.size,0,none⟩) 1 1 [.int .i64 (k:Int),.int .i64 ((c0:Int)+1),.slice AF NF cF,.int .i64 1,.int .i64 0,.bool false,.bool false,.bool false,.bool false,.slice none 0 0,.slice none 0 0] rfl rfl (rd_new _ [.int .i64 (k:Int),.int .i64 ((c0:Int)+1),.slice AF NF cF,.int .i64 1,.int .i64 0,.bool false,.bool false,.bool false,.bool false,.slice none 0 0,.slice none 0 0] 171) (by simp) (by simp[Value.oneCell']) (by omega) (by omega) ?_;intro v7 w7 o7 k7 a7;obtain⟨A7,c7,rfl,_⟩:=own_rd o7;obtain⟨y0,y1,HZ⟩:=HP10.out _ _ w7 o7 k7 (by simpa using a7);clear o7 k7 a7)
      all_goals
       obtain⟨L2,HZ⟩:=HZ.out
       have HZ:=As.mk HZ
       clear y0 y1 d7 q0 q1 q2 q3 q4 q5 q6 q7 q8 q9 q10 HO10 HP10
       go_wp2_with fail
       go_roundw
       case rel=>exact⟨k+1,m+1,c9,A9,L2,by go_num,rfl,by omega,by omega,HZ⟩
       case measure=>simp[intOf];omega
    ·obtain rfl:k=tz:=by omega
     have HFN:As (RTick U L cf ({s with asks:=mkAsks cf s.ended j 1 s.ctx (jshards cf j),ctx:=s.ctx+(jshards cf j).length},(mkAsks cf s.ended j 1 s.ctx (jshards cf j)).map (msgOf cf s.whom)) w (.returned (.slice A6 m c6)) wr):=⟨by
      have e:=bR_all cf s j
      rw[HFT.out.1,HFT.out.2] at e
      have h:=HB.out
      have hst:=h.st
      have ho:=h.out
      rw[show(({s with asks:=mkAsks cf s.ended j 1 s.ctx (jshards cf j),ctx:=s.ctx+(jshards cf j).length},(mkAsks cf s.ended j 1 s.ctx (jshards cf j)).map (msgOf cf s.whom)):Cs×List Msg)=(bR cf s j fr k,(bR cf s j fr k).asks.map (msgOf cf s.whom)) by rw[e]]
      refine⟨Lk,_,rfl,hst.kp (Kp.refl [] wr) (by simp) (fun x hx=> .inl (by simp[hx])),ho.kp (Kp.refl [] wr) (by simp) (fun x hx=> .inl (by simp[hx])),h.gr,h.kp⟩⟩
     go_wp2_with fail
     go_ret
     exact HFN.out
end Go.Proofs.YtdiljpdohmeceaaGreat.co.cr
