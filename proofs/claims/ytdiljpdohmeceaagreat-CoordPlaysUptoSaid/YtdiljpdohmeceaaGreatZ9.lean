/- Words and walks that this claim rests on: proved lemmas alone. -/
import Derived.Test.YtdiljpdohmeceaaGreatZ8
import Derived.BigRegion
set_option maxHeartbeats 16000000
set_option maxRecDepth 100000
namespace Go.Proofs.YtdiljpdohmeceaaGreat.co
open Go.RowKit H O opk frame wir
theorem tick_run(U:List Nat)(w:World)(L:Lay)(cf:Cfg)(s:Cs)(j:Job)(r:List Job)(hC:CoSt U w L cf s)(ok:CsOk cf s)(wt:Wt cf s.asks)(hj:s.jobs=j::r)(ha:s.asks≠[])(hd9:s.done.length<=1000000):
 Calls Tryz.prog 11 #[.pointer (some ⟨L.b,0,none⟩)] w (TickPost U L cf (tick cf s) w):=by
 have hC0:=hC
 obtain⟨κ,VS,VW,VJ,VD,MV,AV,l,h⟩:=hC
 have hjl:=h.jl
 rw[hj] at hjl
 obtain⟨p0,ps,hjs⟩:∃p ps,L.js=p::ps:=by
  cases e:L.js with
  |nil=>rw[e] at hjl;simp at hjl
  |cons p ps=>exact⟨p,ps,rfl⟩
 obtain⟨qb,qo,qc,rfl,q0⟩:=h.jq.cell (i:=0) (p:=p0) (by rw[hjs];rfl)
 obtain⟨m,hm⟩:∃m,L.js.length=m+1:=⟨ps.length,by rw[hjs];rfl⟩
 have hd:=h.hd
 rw[hm] at hd
 have b5:w.cell? ⟨L.b,5,none⟩=some (.slice (some ⟨qb,qo,none⟩) (m+1) qc):=bkc hd 5 rfl
 rw[Nat.add_zero] at q0
 unfold ptr at q0
 obtain⟨tv,dv,hp,_,_⟩:=h.ja 0 j p0 (by rw[hj];rfl) (by rw[hjs];rfl)
 rw[if_pos rfl,if_pos rfl] at hp
 obtain⟨n,hn⟩:∃n,s.asks.length=n:=⟨_,rfl⟩
 have hn9:n<=8:=by have:=ok.few;omega
 have hn1:1<=n:=by
  have:=List.length_pos_iff.2 ha
  omega
 have hal:L.az.length=n:=by rw[h.al,hn]
 have ho:=h.aq.1
 rw[hal] at ho
 obtain⟨ga,cA,rfl,_⟩:=own_form ho (by omega)
 have hga:L.ga=some ga:=by simpa [Value.ownBlock] using h.aq.2.symm
 have p13:w.cell? ⟨p0,13,none⟩=some (.slice (some ⟨ga,0,none⟩) n cA):=bkc hp 13 rfl
 have HI0:As (TkI U L cf s w n 0 s.whom s.asks [] (.slice none 0 0) w):=⟨⟨ok,wt,hn,by simpa [Value.ownBlock] using hC0,OutI.nil _ _,Kp.refl _ _,by simp[Value.ownBlock],Nat.le_refl _,rfl⟩⟩
 have HGA:=As.mk hga
 have HJ:=As.mk (And.intro hj (And.intro hjs (And.intro ha hd9)))
 have hN0:¬n=0:=by omega
 have hN1:((n:Int)==0)=false:=by simp;omega
 have hM1:((m:Int)+1==0)=false:=by simp;omega
 have HN:=As.mk hn
 clear h hd hp hm hjl hC0 ok wt hj hjs ha hal ho hga hd9 hn
 go_enter Tryz.func11,Tryz.ntmps11
 go_wp2_with fail
 go_loopw [4,56] (fun v i wr=>∃(k:Nat) (wh:List Nat) (az:List Ask) (out:List Msg),i= .int .i64 (k:Int)/\k<=n/\As (TkI U L cf s w n k wh az out v wr)) (fun _ i _=>n-(intOf i).toNat)
 case atStart=>exact⟨0,s.whom,s.asks,[],rfl,by omega,HI0⟩
 case round=>
  obtain⟨k,wh,az,out,rfl,hk,HI⟩:=hrel
  by_cases hlt:k<n
  ·have hlen:=HI.out.len
   obtain⟨a,haz⟩:∃a,az[k]?=some a:=⟨_,List.getElem?_eq_getElem (by omega)⟩
   obtain⟨p,hpk,hpm⟩:=HI.out.st.azp (k:=k) (by show k<az.length;omega)
   have c0:=HI.out.st.askPtr HGA.out hpk
   unfold ptr at c0
   have hA:=HI.out.st.askAt hpk haz
   obtain⟨hpl,x1,x2,x5,x6,x7,x8,fz⟩:=hA.cells
   have f5:=fz 5
   have hwt:=HI.out.wt a (List.mem_of_getElem? haz)
   have hst:=tkGo_step cf (n-(k+1)) k wh az out a haz
   rw[show n-(k+1)+1=n-k by omega] at hst
   have hgo:=hst.symm.trans HI.out.go
   have hokc:=HI.out.ok.cfg
   have i0:(0:Int)<=(k:Int):=by omega
   have i1:(k:Int)<(n:Int):=by omega
   have j0:(0:Int)<=(a.waited:Int):=by omega
   have j1:(a.waited:Int)<=1000:=by have:=hokc.pat;omega
   cases han:a.answered with
   |true=>
    rw[han] at x8
    rw[if_pos han] at hgo
    have HX:As (TkI U L cf s w n (k+1) wh az out u4 wr):=⟨⟨HI.out.ok,HI.out.wt,HI.out.len,HI.out.st,HI.out.out,HI.out.kp,HI.out.own,Nat.le_succ_of_le HI.out.few,hgo⟩⟩
    clear hst hgo hA fz hwt hokc hpk haz hlen han
    go_wp2_with fail
    go_roundw
    case rel=>exact⟨k+1,wh,az,out,by go_num,by omega,HX⟩
    case measure=>simp[intOf];omega
   |false=>
    rw[han] at x8
    rw[if_neg (by rw[han];simp)] at hgo
    have h3:=HI.out.st
    obtain⟨κ',VS',VW',VJ',VD',MV',AV',l',h'⟩:=h3
    have b1:wr.cell? ⟨L.b,1,none⟩=some (.int .i64 (cf.pat:Int)):=bkc h'.hd 1 rfl
    have b2:wr.cell? ⟨L.b,2,none⟩=some (.int .i64 (cf.tries:Int)):=bkc h'.hd 2 rfl
    have hpb:¬p=L.b:=by
     have e1:=h'.sep.az p (List.mem_of_getElem? hpk)
     have e2:=h'.sep.b
     intro e
     rw[e] at e1
     omega
    have hbp:¬L.b=p:=fun e=>hpb e.symm
    by_cases hw1:a.waited+1<cf.pat
    ·rw[if_pos hw1] at hgo
     have HX:As (∀wX,Kp [] (wr.setCell ⟨p,5,none⟩ (.int .i64 ((a.waited:Int)+1))) wX->TkI U L cf s w n (k+1) wh (az.set k {a with waited:=a.waited+1}) out u4 wX):=⟨fun wX kX=>by
      obtain⟨g1,g2,g3,g4,_⟩:=HI.out.wait hpk hpm haz kX
      exact⟨g4,HI.out.wt.set k hw1,by rw[List.length_set];exact hlen,g1,g2,g3,HI.out.own,Nat.le_succ_of_le HI.out.few,hgo⟩⟩
     have d1:decide ((a.waited:Int)+1<(cf.pat:Int))=true:=by simp;omega
     clear hst hgo hA fz hwt hokc hpk haz hlen han h' hw1
     go_wp2_with fail
     go_quiet (fail)
     go_wp2_with fail
     go_roundw
     case rel=>exact⟨k+1,wh,_,out,by go_num,by omega,⟨HX.out _ (by first|exact(Kp.refl [] _).drewN _|exact(Kp.refl [] _).drew|exact Kp.refl [] _)⟩⟩
     case measure=>simp[intOf];omega
    ·rw[if_neg hw1] at hgo
     have d1:decide ((a.waited:Int)+1<(cf.pat:Int))=false:=by simp;omega
     by_cases ht1:cf.tries<=a.tried
     ·rw[if_pos ht1] at hgo
      have d2:decide (cf.tries<=a.tried)=true:=by simpa using ht1
      have HE:=As.mk (fun wX kX=>HI.out.ends hpk hpm haz (wX:=wX) kX HJ.out.1 HJ.out.2.1 HJ.out.2.2.2)
      have HT:=As.mk (tick_end (cf:=cf) HJ.out.1 HJ.out.2.2.1 (by rw[HN.out];exact hgo.symm))
      clear hst hgo hA fz hwt hokc hpk haz hlen han h' hw1 ht1
      go_wp2_with fail
      go_quiet (fail)
      go_wp2_with fail
      go_quiet (fail)
      go_wp2_with (go_at_call 32;refine(HE.out _ (by first|exact(Kp.refl [] _).drewN _|exact((Kp.refl [] _).drewN _).drewN _)).mono ?_;rintro en w2 ⟨rfl,HF⟩)
      go_ret
      obtain⟨L',q1,q2,q3,q4⟩:=HF.out
      rw[HT.out]
      exact⟨L',_,rfl,q1,q2,q3,q4⟩
     ·rw[if_neg ht1] at hgo
      have d2:decide (cf.tries<=a.tried)=false:=by simpa using ht1
      have aok:=HI.out.ok.asks a (List.mem_of_getElem? haz)
      obtain⟨vs,ho,hov,hms⟩:=HI.out.out
      obtain⟨nm,hnm⟩:∃m,out.length=m:=⟨_,rfl⟩
      rw[hnm] at ho
      have hnm8:nm<=8:=by have:=HI.out.few;omega
      obtain⟨fl,hfl⟩:∃m,a.frame.length=m:=⟨_,rfl⟩
      obtain⟨dd,hdd⟩:∃m,dest cf (nextW cf wh a.shard) a.shard=m:=⟨_,rfl⟩
      obtain⟨bS,oS,cS,Ab,Ao,nj,cj,cw,wi,rfl,hbS,s0,hAb,rfl,w1',fw1,e2,hlt2,h7,e7,_⟩:=h'.dest HI.out.ok aok.shard
      have HRS:=As.mk (fun q=>HI.out.resend hpk hpm haz (by rw[han];simp) hw1 ht1 q e2 e7 hdd hfl hnm hlt ⟨ho,hms⟩)
      have b3:wr.cell? ⟨L.b,3,none⟩=some (.slice (some ⟨bS,oS,none⟩) cf.shards.length cS):=bkc h'.hd 3 rfl
      have b4:wr.cell? ⟨L.b,4,none⟩=some (.slice (some ⟨L.gw,0,none⟩) wh.length cw):=bkc h'.hd 4 rfl
      have hgp:¬L.gw=p:=by
       have e1:=h'.sep.az p (List.mem_of_getElem? hpk)
       have e2:=h'.sep.gw
       intro e
       rw[<-e] at e1
       omega
      have hbp2:¬bS=p:=fun e=>hbS (by rw[e];exact List.mem_append.2 (.inl hpm))
      have hwl:=HI.out.ok.wlen
      have hwl:wh.length=cf.shards.length:=hwl
      have hsh:=aok.shard
      have t0:(0:Int)<=(a.shard:Int):=by omega
      have t1:(a.shard:Int)<(cf.shards.length:Int):=by omega
      have t2:(a.shard:Int)<(wh.length:Int):=by omega
      have t3:IntKind.i64.wrap ((wi:Int)+1)=(wi:Int)+1:=by rw[IntKind.wrap_i64];omega
      have t4:(0:Int)<=(wi:Int)+1:=by omega
      have t5:¬(nj:Int)=0:=by omega
      have t6:((wi:Int)+1).tmod (nj:Int)=(((wi+1)%nj:Nat):Int):=by rw[Int.tmod_eq_emod_of_nonneg (by omega)];rfl
      clear hst hgo hA fz hwt hokc hlen han h' hw1 ht1 hsh hwl ho hov hms hnm hfl hdd e2 e7
      go_wp2_with fail
      go_quiet (fail)
      go_wp2_with fail
      go_quiet (fail)
      go_upto_region 22 with fail
      go_cut [92] from 92 to 126 (fun _ wx=>∃q:Nat,wx=((wr.setCell ⟨p,5,none⟩ (.int .i64 ((a.waited:Int)+1))).drewN q).setCell ⟨L.gw,a.shard,none⟩ (.int .i64 (((wi:Int)+1)%(nj:Int))))
      case first=>
       go_region
       go_wp2_with fail
       go_meet
       exact⟨_,rfl⟩
      case rest=>
       obtain⟨q,rfl⟩:=hcut
       go_wp2_with (first
        |(go_at_call 31;refine(HRS.out _).mono ?_;rintro e w2 ⟨A2,c2,rfl,HOW,HFI⟩)
        |(at_builtin;refine wpList_app rfl (.tmp 127) (.tmp 131) 31 rfl 44 (.agg #[.int .i64 0,.int .i64 0,.slice none 0 0]) 3 40 Tryz.underlying31 info_msg rfl (by decide) u4 nm vs rfl HOW.out (some ⟨w2.heap.size,0,none⟩) 1 1 [.int .i64 (cf.id:Int),.int .i64 dd,.slice A2 fl c2] rfl rfl (rd_new w2 _ _) (by simp) (by simp[Value.oneCell']) (by omega) (by omega) ?_;intro v3 w3 o3 k3 a3 _;have HF3:=As.mk (HFI.out v3 w3 o3 k3 (by simpa using a3));clear o3 k3 a3))
       go_roundw
       case rel=>exact⟨k+1,_,_,_,by go_num,by omega,HF3⟩
       case measure=>simp[intOf];omega
  ·obtain rfl:k=n:=by omega
   go_wp2_with fail
   go_ret
   have hgo:=HI.out.go
   rw[Nat.sub_self] at hgo
   rw[tick_go HJ.out.1 HJ.out.2.2.1 (by rw[HN.out];exact hgo.symm)]
   refine⟨L,_,rfl,HI.out.st.kp (Kp.refl [] wr) (by simp) (fun x hx=> .inl (List.mem_append.2 (.inr hx))),HI.out.out,Grew.refl _ _,HI.out.kp⟩
end Go.Proofs.YtdiljpdohmeceaaGreat.co
