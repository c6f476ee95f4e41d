/- Words and walks that this claim rests on: proved lemmas alone. -/
import Derived.Test.YtdiljpdohmeceaaGreatZ5
import Derived.Deep.CutBlock
set_option maxHeartbeats 16000000
set_option maxRecDepth 100000
namespace Go.Proofs.YtdiljpdohmeceaaGreat.co
open Go.RowKit H O opk frame wir
theorem frame_len{p:List Int}(h:p.length<=9000):(fEnc p).length<=9012:=by rw[fEnc_len];omega
theorem jdata_len{cf:Cfg}{num:Nat}{j:Job}(h:JobOk j):(jdata cf num j).length<=5000/\Wf (jdata cf num j):=by
 have hk:=h.key
 have ht:=h.text
 have h4:=h.kind
 have ob:∀(kd a b:Int) (key:ByteArray) (x:List Int),key.size<=64->x.length<=4096->Wf x->(opBytes kd a b key x).length<=5000/\Wf (opBytes kd a b key x):=by
  intro kd a b key x h1 h2 h3
  have e1:=nums_len [kd,a,b]
  have e2:=rows2_len (kb key) x
  rw[kb_len] at e2
  refine⟨by rw[opBytes,List.length_append];simp only[List.length_cons,List.length_nil] at e1;omega,fun y hy=> ?_⟩
  rcases List.mem_append.1 hy with e|e
  ·exact nums_u8 _ y e
  ·obtain⟨z,hz,hy2⟩:=List.mem_flatMap.1 e
   refine row_u8 z ?_ y hy2
   simp only[List.mem_cons,List.not_mem_nil,or_false] at hz
   rcases hz with rfl|rfl
   ·exact kb_wf key
   ·exact h3
 unfold jdata
 split
 ·exact ob _ _ _ _ _ (hk (by omega)).2 ht.1 ht.2
 ·split
  ·exact ob _ _ _ _ _ (hk (by omega)).2 (by simp) Wf.nil
  ·split
   ·exact⟨by rw[kb_len];have:=hk (by omega);omega,kb_wf _⟩
   ·exact⟨by omega,ht.2⟩
theorem wkind_rq{j:Job}(h:JobOk j)(c s:Nat)(hc:c<=1099511627776)(hs:s<=255):rqOk (wkind j) c s=true:=by
 have h4:=h.kind
 simp only[rqOk,Bool.and_eq_true,decide_eq_true_eq]
 refine⟨⟨?_,by omega⟩,by omega⟩
 unfold wkind
 split
 ·omega
 ·split
  ·omega
  ·split<;>omega
theorem wkind_find{j:Job}(h:JobOk j):wkind j=2↔j.kind=4:=by
 have h4:=h.kind
 unfold wkind
 split
 ·omega
 ·split
  ·omega
  ·split<;>omega
theorem begins_any(U:List Nat)(w:World)(L:Lay)(cf:Cfg)(s:Cs)(j:Job)(r:List Job)(p0:Nat)(ps:List Nat)(hC:CoSt U w L cf s)(ok:CsOk cf s)(hj:s.jobs=j::r)(hjs:L.js=p0::ps)(ha:s.asks=[])(hc:s.ctx+8<=1099511627776)(he:s.ended+1<=1099511627776):
 Calls Tryz.prog 30 #[.pointer (some ⟨L.b,0,none⟩),.pointer (some ⟨p0,0,none⟩)] w fun e w'=>e= .returned (.tuple #[])/\BegI U L cf {s with asks:=mkAsks cf s.ended j 0 s.ctx (jshards cf j),ctx:=s.ctx+(jshards cf j).length} w w':=by
 have HC:=As.mk hC
 obtain⟨κ,VS,VW,VJ,VD,MV,AV,l,h⟩:=hC
 have jok:=ok.jobs j (by rw[hj];simp)
 obtain⟨tv,dv,hbp,⟨Ax,ct,rfl,hrt,hlt,hmt,hnt⟩,⟨Ad,cd,rfl,hrd,hld,hmd,hnd⟩⟩:=h.ja 0 j p0 (by rw[hj];rfl) (by rw[hjs];rfl)
 obtain⟨AS,cS,rfl,hri,hlS,hmS,hnS⟩:=h.sh
 obtain⟨n,hn⟩:∃n,cf.shards.length=n:=⟨_,rfl⟩
 obtain⟨nt,hnt'⟩:∃n,(otext j).length=n:=⟨_,rfl⟩
 obtain⟨nd,hnd'⟩:∃n,(ddat j).length=n:=⟨_,rfl⟩
 obtain⟨wk,hwk⟩:∃n,wkind j=n:=⟨_,rfl⟩
 obtain⟨ok',hok'⟩:∃n,okind j=n:=⟨_,rfl⟩
 rw[hwk,hok',hnt',hnd'] at hbp
 rw[hnt'] at hlt
 rw[hnd'] at hld
 have hnt9:nt<=4096:=by
  rw[<-hnt',otext]
  split
  ·exact jok.text.1
  ·simp
 have b3:w.cell? ⟨L.b,3,none⟩=some (.slice AS n cS):=by rw[<-hn];exact bkc h.hd 3 rfl
 have p6:w.cell? ⟨p0,6,none⟩=some (.int .i64 wk):=bkc hbp 6 rfl
 have p7:w.cell? ⟨p0,7,none⟩=some (.int .i64 ok'):=bkc hbp 7 rfl
 have p8:w.cell? ⟨p0,8,none⟩=some (.int .i64 (cf.id:Int)):=bkc hbp 8 rfl
 have p9:w.cell? ⟨p0,9,none⟩=some (.int .i64 ((s.ended:Int)+1)):=bkc hbp 9 rfl
 have p10:w.cell? ⟨p0,10,none⟩=some (.string (okey j)):=bkc hbp 10 rfl
 have p11:w.cell? ⟨p0,11,none⟩=some (.slice Ax nt ct):=bkc hbp 11 rfl
 have p12:w.cell? ⟨p0,12,none⟩=some (.slice Ad nd cd):=bkc hbp 12 rfl
 have hcv:∀wX,Kp [] w wX->(convert 24 9 (.slice Ad nd cd)).run Tryz.prog wX= .ok (.string (strOfNums (ddat j))) wX:=fun wX kX=>cvt_str hnd' (kX.rd_new hrd.rd (by simp))
 have hcv0:=hcv w (Kp.refl _ _)
 clear hcv
 have HENC:As (∀wX,Kp [] w wX->(wk=1->Calls Tryz.prog 74 #[.agg #[.int .i64 ok',.int .i64 (cf.id:Int),.int .i64 ((s.ended:Int)+1),.string (okey j),.slice Ax nt ct]] wX fun e w'=>∃A2 n2 c2,e= .returned (.tuple #[.slice A2 n2 c2,.int .i64 0])/\
  As ((jdata cf s.ended j).length=n2/\RdS (L.all++U) w' A2 (iv .u8 (jdata cf s.ended j))/\n2<=c2/\(A2=none->c2=0))/\As (Kp [] w w'))):=⟨fun wX kX h1=>by
  have hid:=ok.cfg.id
  have hw1:(within1 (cf.id:Int)&&within1 ((s.ended:Int)+1))=true:=by simp only[within1,Bool.and_eq_true,decide_eq_true_eq];omega
  have hlt2:=HC.out.lt
  have hkt:=jok.key
  have htx:=jok.text
  have key:∀kd,(j.kind=1\/j.kind=2)->okind j=kd->opErr kd cf.id ((s.ended:Int)+1) (okey j).size (otext j).length=0->jdata cf s.ended j=opBytes kd cf.id ((s.ended:Int)+1) (okey j) (otext j)->okind j=ok'->
   Calls Tryz.prog 74 #[.agg #[.int .i64 ok',.int .i64 (cf.id:Int),.int .i64 ((s.ended:Int)+1),.string (okey j),.slice Ax nt ct]] wX fun e w'=>∃A2 n2 c2,e= .returned (.tuple #[.slice A2 n2 c2,.int .i64 0])/\
    As ((jdata cf s.ended j).length=n2/\RdS (L.all++U) w' A2 (iv .u8 (jdata cf s.ended j))/\n2<=c2/\(A2=none->c2=0))/\As (Kp [] w w'):=by
   intro kd _ e1 e2 e3 e4
   rw[e1] at e4
   subst e4
   refine(opk.encode_any kd cf.id ((s.ended:Int)+1) (okey j) Ax nt ct (otext j) wX hnt' (kX.rd_new hrt.rd (by simp)) hlt hnt (by omega)).mono ?_
   rintro e w' ⟨v,rfl,ho,hk⟩
   rw[e2] at ho⊢
   rw[if_pos rfl,<-e3] at ho
   obtain⟨A2,c2,rfl,g1,g2,g3,g4⟩:=BSl.own (S:=L.all++U) ho (fun x hx=> .inl (by have:=hlt2 x hx;have:=kX.size;omega))
   exact⟨A2,_,c2,rfl,⟨rfl,g1,g2,g4⟩,⟨kX.trans hk (by simp)⟩⟩
  by_cases k1:j.kind=1
  ·have e1:okind j=1:=by simp[okind,k1]
   refine key 1 (.inl k1) e1 ?_ ?_ hok'
   ·rw[show okey j=j.key from by simp[okey,k1],show otext j=j.text from by simp[otext,k1]]
    exact opErr_ne.2 ⟨.inl rfl,hw1,hkt (by omega),htx.1⟩
   ·rw[show okey j=j.key from by simp[okey,k1],show otext j=j.text from by simp[otext,k1],jdata,if_pos k1]
  ·by_cases k2:j.kind=2
   ·have e1:okind j=2:=by simp[okind,k2]
    refine key 2 (.inr k2) e1 ?_ ?_ hok'
    ·rw[show okey j=j.key from by simp[okey,k2],show otext j=[] from by simp[otext,k2]]
     exact opErr_ne.2 ⟨.inr ⟨rfl,by simp⟩,hw1,hkt (by omega),by simp⟩
    ·rw[show okey j=j.key from by simp[okey,k2],show otext j=[] from by simp[otext,k2],jdata,if_neg k1,if_pos k2]
   ·exfalso
    rw[<-hwk,wkind,if_neg k1,if_neg k2] at h1
    split at h1<;>omega⟩
 have HND:As (wk≠1->(jdata cf s.ended j)=ddat j/\(j.kind≠4->strOfNums (ddat j)=j.key)):=⟨fun h1=>by
  have k1:j.kind≠1:=fun e=>h1 (by rw[<-hwk,wkind,if_pos e])
  have k2:j.kind≠2:=fun e=>h1 (by rw[<-hwk,wkind,if_neg k1,if_pos e])
  have h4:=jok.kind
  by_cases k3:j.kind=3
  ·rw[jdata,if_neg k1,if_neg k2,if_pos k3,ddat,if_pos k3]
   exact⟨rfl,fun _=>haystacklaw13.str_kb _⟩
  ·rw[jdata,if_neg k1,if_neg k2,if_neg k3,ddat,if_neg k3,if_pos (by omega)]
   exact⟨rfl,fun e=>absurd (show j.kind=4 by omega) e⟩⟩
 have HKD:As (wk=1->okey j=j.key):=⟨fun h1=>by
  by_cases k1:j.kind=1
  ·simp[okey,k1]
  ·by_cases k2:j.kind=2
   ·simp[okey,k2]
   ·exfalso
    rw[<-hwk,wkind,if_neg k1,if_neg k2] at h1
    split at h1<;>omega⟩
 have HKZ:As ((okey j).size<=64/\(strOfNums (ddat j)).size<=5000):=⟨by
  have hkt:=jok.key
  have htx:=jok.text
  rw[opk.str_size]
  constructor
  ·unfold okey
   split
   ·exact(hkt (by omega)).2
   ·split
    ·exact(hkt (by omega)).2
    ·exact Nat.zero_le _
  ·unfold ddat
   split
   ·rw[kb_len]
    have:=hkt (by omega)
    omega
   ·split
    ·omega
    ·simp⟩
 have HD:=As.mk (And.intro hnd' (And.intro hrd (And.intro hld hnd)))
 have HJ:=As.mk (And.intro jok (And.intro hj (And.intro hjs (And.intro ha (And.intro hc he)))))
 have HOK:=As.mk ok
 have HWK:=As.mk hwk
 have HN:=As.mk hn
 clear h hbp hrt hlt hmt hnt hrd hld hmd hnd hri hlS hmS hnS jok hj hjs ha hc he ok hwk hok' hn hnt' hnd'
 go_enter Tryz.func30,Tryz.ntmps30
 go_upto_if 20 with fail
 go_cut [4,5] from 20 to 33 (fun v4 v5 wx=>∃(A2:Option Addr) (n2 c2:Nat) (K:ByteArray),v4= .slice A2 n2 c2/\v5= .string K/\As ((jdata cf s.ended j).length=n2/\RdS (L.all++U) wx A2 (iv .u8 (jdata cf s.ended j))/\n2<=c2/\(A2=none->c2=0))/\As ((j.kind≠4->K=j.key)/\K.size<=5000)/\As (Kp [] w wx))
 case first=>
  by_cases h1:wk=1
  ·have HE:=As.mk (HENC.out w (Kp.refl _ _) h1)
   have HK1:=As.mk (HKD.out h1)
   subst h1
   clear HENC HND HKD
   go_wp2_with (go_at_call 74;refine HE.out.mono ?_;rintro e w1 ⟨A2,n2,c2,rfl,HR,HK⟩;have p10':=HK.out.cell p10 (by simp);clear HE)
   go_meet
   exact⟨A2,n2,c2,_,rfl,rfl,HR,⟨fun _=>HK1.out,by have:=HKZ.out;omega⟩,HK⟩
  ·have b1:(wk==1)=false:=by simpa using h1
   obtain⟨e1,e2⟩:=HND.out h1
   have HE:=As.mk (And.intro e1 e2)
   clear e1 e2 h1
   go_wp2
   go_meet
   exact⟨Ad,nd,cd,_,rfl,rfl,⟨by rw[HE.out.1];exact HD.out⟩,⟨HE.out.2,HKZ.out.2⟩,⟨Kp.refl _ _⟩⟩
 case rest=>
  obtain⟨A2,n2,c2,K,rfl,rfl,HR,HK,HKP⟩:=hcut
  have hn1:=HOK.out.cfg.len
  rw[HN.out] at hn1
  have HSH:=As.mk (shard_full K n wc (by have:=HK.out.2;omega) hn1.1 hn1.2)
  have d3:=HKP.out.cell b3 (by simp)
  obtain⟨sh,hsh⟩:∃x,shardOf (kb K) n=x:=⟨_,rfl⟩
  rw[hsh] at HSH
  have HSHV:=As.mk hsh
  have HC0:=HC.out.kp (U2:=U) HKP.out (by simp) (fun x hx=> .inl hx)
  clear hn1 hsh HENC HND HKD HKZ p6 p7 p8 p9 p10 p11 p12 b3 hcv0
  go_wp2_with (go_at_call 75;refine HSH.out.mono ?_;rintro e w1 ⟨rfl,k1⟩;have HK1:=As.mk k1;have d4:=k1.cell d3 (by simp);clear k1 HSH)
  have HB1:As (BegI U L cf (bSt cf s j 0) w1 w1):=⟨L,by
   have h0:=HC0.kp (U2:=U) HK1.out (by simp) (fun x hx=> .inl hx)
   have e:bSt cf s j 0=s:=by
    simp only[bSt,pre_zero,mkAsks]
    rw[<-HJ.out.2.2.2.1]
    rfl
   rw[e]
   exact h0,Grew.refl _ _,rfl,Kp.refl _ _⟩
  have HR1:As (RdS (L.all++U) w1 A2 (iv .u8 (jdata cf s.ended j))):=⟨HR.out.2.1.kp HK1.out (by simp)⟩
  have HWW:As (Kp [] w w1):=⟨HKP.out.trans HK1.out (by simp)⟩
  have hn8:n<=8:=by have:=HOK.out.cfg.len;have:=HN.out;omega
  clear d3 d4 HC0
  go_loopw [49] (fun i wr=>∃k:Nat,i= .int .i64 (k:Int)/\k<=n/\As (BegI U L cf (bSt cf s j k) w1 wr)) (fun i _=>n-(intOf i).toNat)
  case atStart=>exact⟨0,rfl,by omega,HB1⟩
  case round=>
   obtain⟨k,rfl,hk,HB⟩:=hrel
   by_cases hlt:k<n
   ·obtain⟨Lk,⟨κ',VS',VW',VJ',VD',MV',AV',l',hk'⟩,hg,hjl,hkp⟩:=HB.out
    have hjl':Lk.js=p0::ps:=hjl.trans HJ.out.2.2.1
    obtain⟨tv',ev',hq,_,_⟩:=hk'.ja 0 j p0 (show s.jobs[0]?=some j by rw[HJ.out.2.1];rfl) (by rw[hjl'];rfl)
    rw[if_pos rfl,if_pos rfl,HWK.out] at hq
    have hdk:=hk'.hd
    rw[hg.1] at hdk
    obtain⟨c0,hc0⟩:∃c,(bSt cf s j k).ctx=c:=⟨_,rfl⟩
    rw[hc0] at hdk
    have r7:wr.cell? ⟨L.b,7,none⟩=some (.int .i64 (c0:Int)):=bkc hdk 7 rfl
    have g7:=blk_free hdk 7
    have q6:wr.cell? ⟨p0,6,none⟩=some (.int .i64 wk):=bkc hq 6 rfl
    have q13:wr.cell? ⟨p0,13,none⟩=some AV':=bkc hq 13 rfl
    have g13:=blk_free hq 13
    have hpl:p0<wr.heap.size:=lt_of_block hq
    have hbl:L.b<wr.heap.size:=lt_of_block hdk
    have hpn:¬p0=wr.heap.size:=by omega
    have hbn:¬L.b=wr.heap.size:=by omega
    have hpb:¬p0=L.b:=by
     have h1:=hk'.sep.js p0 (by rw[hjl'];simp)
     have h2:=hk'.sep.b
     rw[hg.1] at h2
     intro e
     rw[e] at h1
     omega
    have i0:(0:Int)<=(k:Int):=by omega
    have i1:(k:Int)<(n:Int):=by omega
    have HC1:=As.mk hc0
    by_cases hgo:j.kind=4\/k=sh
    ·have hpre:pre cf j (k+1)=pre cf j k++[k]:=by
      by_cases h4:j.kind=4
      ·exact pre_find k h4
      ·refine pre_hit h4 ?_
       rw[HN.out,<-HK.out.1 h4,HSHV.out]
       exact hgo.resolve_left h4
     have hcb:c0+1<=1099511627776:=by
      have h1:=HJ.out.2.2.2.2.1
      have h2:=pre_len cf j k
      rw[<-hc0]
      show s.ctx+(pre cf j k).length+1<=_
      omega
     obtain⟨W3,hW3⟩:∃W3,W3=(wr.setCell ⟨L.b,7,none⟩ (.int .i64 ((c0:Int)+1))).alloc (.cells #[.int .i64 wk,.int .i64 ((c0:Int)+1),.int .i64 (k:Int),.slice A2 n2 c2,.slice none 0 0,.int .i64 0,.int .i64 0,.bool false,.bool false] 101):=⟨_,rfl⟩
     have HW3:=As.mk hW3
     have hW3':(wr.setCell ⟨Lk.b,7,none⟩ (.int .i64 ((c0+1:Nat):Int))).alloc (askNew wk (c0+1) k (.slice A2 n2 c2))=W3:=by rw[hW3,hg.1];rfl
     have k3:Kp L.all wr W3:=by
      rw[<-hW3']
      exact((Kp.refl L.all wr).setCell (.inl (by rw[hg.1];exact CoSt.mem_b)) _).alloc _
     have hjd:=jdata_len (cf:=cf) (num:=s.ended) HJ.out.1
     have HEN:As (∀wX,Kp [] W3 wX->Calls Tryz.prog 76 #[.agg #[.int .i64 wk,.int .i64 ((c0:Int)+1),.int .i64 (k:Int),.slice A2 n2 c2]] wX fun e w4=>∃AF nF cF,e= .returned (.tuple #[.slice AF nF cF,.int .i64 0])/\As (BegM U cf (bSt cf s j k) Lk p0 wr wk (c0+1) k (.slice A2 n2 c2) AV' (.slice AF nF cF) w4/\
      ∀S2,(∀x∈S2,x<=wr.heap.size)->BSl S2 w4 (.slice AF nF cF) (frameOf cf s.ended j (c0+1) k))):=⟨fun wX kX=>by
      refine(wir.encode_any wk ((c0:Int)+1) k A2 n2 c2 (jdata cf s.ended j) wX HR.out.1 ((((HR1.out.kp hkp (fun x hx=> .inl (List.mem_append.2 (.inl hx)))).kp k3 (fun x hx=> .inl (List.mem_append.2 (.inl hx)))).kp kX (by simp)).rd) HR.out.2.2.1 HR.out.2.2.2 hjd.2 (by have:=HR.out.1;omega)).mono ?_
      rintro e w4 (⟨h1,_⟩|⟨_,AF,cF,rfl,k4,jd,_,_,_,_⟩)
      ·have h2:=wkind_rq HJ.out.1 (c0+1) k hcb (by omega)
       rw[HWK.out] at h2
       rw[show((c0+1:Nat):Int)=(c0:Int)+1 from rfl] at h2
       rw[h2] at h1
       cases h1
      ·have hs3:W3.heap.size=wr.heap.size+1:=by rw[hW3,World.size_alloc,World.size_setCell]
       refine⟨AF,_,cF,rfl,⟨⟨hk'.aq,by rw[hg.1];exact hbl,fun x hx=> ?_,⟨hpl,by rw[hg.1];exact hpb⟩,⟨q13,g13⟩,by rw[hW3'];exact kX.trans k4 (by simp)⟩,fun S2 hS2=> ?_⟩⟩
       ·have h1:=hk'.sep.ga x hx
        have h2:=hk'.sep.b
        have h3:=hk'.sep.js p0 (by rw[hjl'];simp)
        exact⟨h1.2,fun e=>by rw[e] at h1;omega,fun e=>by rw[e] at h1;omega⟩
       ·have hf:frameOf cf s.ended j (c0+1) k=fEnc (pay 113 [wk,(c0:Int)+1,(k:Int)] (jdata cf s.ended j)):=by rw[frameOf,HWK.out];rfl
        rw[hf]
        have hl:=pay_len 113 [wk,(c0:Int)+1,(k:Int)] (jdata cf s.ended j) (by simp)
        have hl2:=frame_len (p:=pay 113 [wk,(c0:Int)+1,(k:Int)] (jdata cf s.ended j)) (by have:=hjd.1;omega)
        exact BSl.jd jd (fun x hx=>by have:=hS2 x hx;have:=kX.size;omega) (by omega)⟩
     obtain⟨m,hm⟩:∃m,Lk.az.length=m:=⟨_,rfl⟩
     have hm9:m<=8:=by
      have h1:=hk'.al
      have h2:(bSt cf s j k).asks.length=(pre cf j k).length:=mkAsks_len ..
      have h3:=pre_len cf j k
      omega
     have HFIN:As (∀w4 vF v7 w7,BegM U cf (bSt cf s j k) Lk p0 wr wk (c0+1) k (.slice A2 n2 c2) AV' vF w4->(∀S2,(∀x∈S2,x<=wr.heap.size)->BSl S2 w4 vF (frameOf cf s.ended j (c0+1) k))->w7.ownsRow 0 97 1 v7 (m+1) (Lk.az.map ptr++[ptr wr.heap.size])->Kp AV'.ownBlock.toList ((w4.setCell ⟨wr.heap.size,4,none⟩ vF).alloc (.cells #[ptr wr.heap.size] 97)) w7->At (w4.heap.size+1) AV'.ownBlock v7.ownBlock->
      w7.cell? ⟨p0,13,none⟩=some AV'/\w7.frozen? ⟨p0,13,none⟩=false/\As (BegI U L cf (bSt cf s j (k+1)) w1 (w7.setCell ⟨p0,13,none⟩ v7))):=⟨fun w4 vF v7 w7 h1 h2 h3 h4 h5=>by
      rw[<-hm] at h3
      obtain⟨a1,a2,a3⟩:=h1.fin hk' hg hjl hkp HJ.out.2.1 HJ.out.2.2.1 hpre (by rw[hc0]) h2 h3 h4 h5
      exact⟨a1,a2,⟨a3⟩⟩⟩
     have HMID:As (∀w4 vF,BegM U cf (bSt cf s j k) Lk p0 wr wk (c0+1) k (.slice A2 n2 c2) AV' vF w4->w4.cell? ⟨wr.heap.size,4,none⟩=some (.slice none 0 0)/\w4.frozen? ⟨wr.heap.size,4,none⟩=false/\wr.heap.size<w4.heap.size/\w4.cell? ⟨p0,13,none⟩=some AV'/\p0≠wr.heap.size/\
      As (((w4.setCell ⟨wr.heap.size,4,none⟩ vF).alloc (.cells #[ptr wr.heap.size] 97)).ownsRow 0 97 1 AV' m (Lk.az.map ptr))):=⟨fun w4 vF h1=>by
      obtain⟨a1,a2,a3,a4,a5,a6⟩:=h1.mid
      rw[hm] at a6
      exact⟨a1,a2,a3,a4,a5,⟨a6⟩⟩⟩
     obtain⟨AA,cA,rfl,_⟩:=own_rd hk'.aq.1
     rw[hm] at q13 HFIN HMID HEN
     have hgo4:wk=2\/(wk≠2/\k=sh):=by
      by_cases e:wk=2
      ·exact .inl e
      ·exact .inr ⟨e,hgo.resolve_left (fun h4=>e (by rw[<-HWK.out];exact(wkind_find HJ.out.1).2 h4))⟩
     have k1:((wk !=2)&&((k:Int) !=(sh:Int)))=false:=by
      rcases hgo4 with rfl|⟨_,rfl⟩<;>simp
     have KX:As (∀wX,Kp [] (wr.setCell ⟨L.b,7,none⟩ (.int .i64 ((c0:Int)+1))) wX->wX.cell? ⟨p0,6,none⟩=some (.int .i64 wk)/\wX.cell? ⟨L.b,7,none⟩=some (.int .i64 ((c0:Int)+1))):=⟨fun wX kX=>by
      have kk:Kp [L.b] wr (wr.setCell ⟨L.b,7,none⟩ (.int .i64 ((c0:Int)+1))):=(Kp.refl [L.b] wr).setCell (.inl (by simp)) _
      have h1:=heap_setCell_same wr L.b 7 _ _ (.int .i64 ((c0:Int)+1)) hdk
      exact⟨kX.cell (kk.cell q6 (by simpa using hpb)) (by simp),bkc (kX.blk h1 (by simp)) 7 rfl⟩⟩
     have i2:(0:Int)<=(c0:Int):=by omega
     have i3:(c0:Int)<=1099511627776:=by omega
     clear hgo hc0 hdk hq hk' hg hjl hkp hjl' hpre hW3 hW3' k3 hjd hm HC1 hcb
     have hgo5:(wk !=2)=false\/((wk !=2)=true/\((k:Int) !=(sh:Int))=false):=by
      rcases hgo4 with rfl|⟨e,rfl⟩
      ·exact .inl rfl
      ·exact .inr ⟨by simpa using e,by simp⟩
     clear hgo4 k1
     rcases hgo5 with k1|⟨k1,k2⟩
     all_goals
      go_upto_region 11 with fail
      go_region_held3 (fun wX=>wX.cell? ⟨p0,6,none⟩=some (.int .i64 wk)/\wX.cell? ⟨L.b,7,none⟩=some (.int .i64 ((c0:Int)+1))) (first|exact KX.out _ (Kp.refl [] _)|exact KX.out _ (Kp.refl [] _).drew|exact KX.out _ ((Kp.refl [] _).drewN _)|exact KX.out _ ((Kp.refl [] _).drew.alloc _)|exact KX.out _ (((Kp.refl [] _).drewN _).alloc _)|exact KX.out _ (((Kp.refl [] _).alloc _).drewN _)|exact KX.out _ ((Kp.refl [] _).alloc _)) (fail)
      go_wp2_with (first
       |(go_at_call 76;rw[<-HW3.out];refine(HEN.out _ (Kp.refl [] _).drew).mono ?_;rintro e w4 ⟨AF,nF,cF,rfl,HB4⟩;obtain⟨z0,z1,z2,z3,z4,HO4⟩:=HMID.out w4 _ HB4.out.1)
       |(at_builtin;refine wpList_app rfl (.tmp 97) (.tmp 99) 90 rfl 97 (.pointer none) 1 8 Tryz.underlying90 info_ask rfl (by decide) (.slice AA m cA) m (Lk.az.map ptr) rfl HO4.out (some ⟨w4.heap.size,0,none⟩) 1 1 [ptr wr.heap.size] rfl rfl (by have:=rd_new (w4.setCell ⟨wr.heap.size,4,none⟩ (.slice AF nF cF)) [ptr wr.heap.size] 97;rw[World.size_setCell] at this;exact this) (by simp) (by simp[ptr,Value.oneCell']) (by omega) (by omega) ?_;intro v7 w7 o7 k7 a7 _;obtain⟨A7,c7,rfl,_⟩:=own_rd o7;obtain⟨y0,y1,HZ⟩:=HFIN.out w4 _ _ w7 HB4.out.1 HB4.out.2 o7 k7 (by simpa using a7);clear o7 k7 a7))
      go_roundw
      case rel=>exact⟨k+1,by go_num,by omega,HZ⟩
      case measure=>simp[intOf];omega
    ·have hw2:wk≠2:=fun e=>hgo (.inl ((wkind_find HJ.out.1).1 (HWK.out.trans e)))
     have k1:(wk !=2)=true:=by simpa using hw2
     have k2:((k:Int) !=(sh:Int))=true:=by
      have:¬k=sh:=fun e=>hgo (.inr e)
      simp only[bne_iff_ne,ne_eq]
      omega
     have HX:As (bSt cf s j (k+1)=bSt cf s j k):=⟨by
      have h4:j.kind≠4:=fun e=>hgo (.inl e)
      have hK:=HK.out.1 h4
      have hne:k≠shardOf (kb j.key) cf.shards.length:=by
       rw[HN.out,<-hK,HSHV.out]
       exact fun e=>hgo (.inr e)
      simp only[bSt,pre_miss h4 hne]⟩
     clear hgo hw2 hc0 hdk hq hk' hg hjl hkp hjl'
     go_wp2
     go_roundw
     case rel=>exact⟨k+1,by go_num,by omega,⟨by rw[HX.out];exact HB.out⟩⟩
     case measure=>simp[intOf];omega
   ·obtain rfl:k=n:=by omega
    go_wp2
    go_end0
    refine⟨rfl, ?_⟩
    obtain⟨Lk,hcs,hg,hjl,hkp⟩:=HB.out
    have hl:=HOK.out.cfg.len
    rw[<-HN.out] at hcs
    simp only[bSt,pre_all (show 0<cf.shards.length by omega)] at hcs
    exact⟨Lk,hcs,⟨hg.1,fun x hx=>(hg.2 x hx).imp id (fun e=>by have:=HWW.out.size;omega)⟩,hjl,HWW.out.mono (by simp)|>.trans hkp (fun x hx=> .inl hx)⟩
end Go.Proofs.YtdiljpdohmeceaaGreat.co
