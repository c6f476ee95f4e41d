/- Words and walks that this claim rests on: proved lemmas alone. -/
import Derived.Test.YtdiljpdohmeceaaGreatZ18
set_option maxHeartbeats 16000000
set_option maxRecDepth 100000
namespace Go.Proofs.YtdiljpdohmeceaaGreat.co.cr
open Go.RowKit H O opk frame wir
theorem tick_go{cf:Cfg}{s:Cs}{j:Job}{jr:List Job}(hj:s.jobs=j::jr)(ha:s.asks≠[]){wh:List Nat}{az:List Ask}{ms:List Msg}{b:Bool}(h:tkGo cf s.asks.length 0 s.whom s.asks []=(wh,az,ms,b)):co.tick cf s=(if b=true then(endErr {s with whom:=wh,asks:=az} 14,ms) else({s with whom:=wh,asks:=az},ms)):=by
 unfold co.tick
 rw[hj]
 simp only[if_neg ha,h]
 cases b<;>rfl
theorem tick_run(U:List Nat)(w:World)(L:RLay)(cf:Cfg)(s:Cs)(j:Job)(jr:List Job)(hC:RsSt U w L cf s)(ok:CsOk cf s)(wt:Wt cf s.asks)(hj:s.jobs=j::jr)(hne:s.asks≠[])(hd9:s.done.length<=1000000)(he9:s.ended<=1000000):
 Calls Tryz.prog 66 #[.pointer (some ⟨L.b,0,none⟩)] w (RTick U L cf (tick cf s) w):=by
 obtain⟨n,hn⟩:∃n,s.asks.length=n:=⟨_,rfl⟩
 obtain⟨g0,g1,g2,g3,g4,g5,AA,cA,g7⟩:=hC.head
 rw[hn] at g7
 have n0:¬(n:Int)=0:=by
  intro e
  exact hne (List.eq_nil_of_length_eq_zero (by omega))
 have hn8:n<=8:=by have:=ok.few;omega
 have H0:As (TkR U L cf s w n 0 s.whom s.asks [] (.slice none 0 0) w):=⟨ok,wt,hn,hC.kp (Kp.refl [] w) (by simp) (fun x hx=> .inl (by simpa [Value.ownBlock] using hx)),OutI.nil _ _,Kp.refl _ _,by simp[Value.ownBlock],Nat.le_refl _,rfl⟩
 have HGO:As (∀wh az ms b,tkGo cf n 0 s.whom s.asks []=(wh,az,ms,b)->co.tick cf s=(if b=true then(endErr {s with whom:=wh,asks:=az} 14,ms) else({s with whom:=wh,asks:=az},ms))):=⟨fun wh az ms b h=>tick_go hj hne (by rw[hn];exact h)⟩
 have HOK:=As.mk ok
 have HJ:=As.mk hj
 clear hn hC ok wt hne hj
 obtain⟨T,hT⟩:∃T,co.tick cf s=T:=⟨_,rfl⟩
 rw[hT] at HGO⊢
 clear hT
 have n0b:((n:Int)==0)=false:=by simpa using n0
 go_enter Tryz.func66,Tryz.ntmps66
 go_wp2_with fail
 clear g0 g1 g2 g3 g4 g5 g7
 go_loopw [3,4] (fun v3 v4 wr=>∃(k m c3:Nat) (A3:Option Addr) (wh:List Nat) (az:List Ask) (ms:List Msg),v4= .int .i64 (k:Int)/\v3= .slice A3 m c3/\k<=n/\As (TkR U L cf s w n k wh az ms (.slice A3 m c3) wr)) (fun _ i _=>n-(intOf i).toNat)
 case atStart=>exact⟨0,0,0,none,_,_,_,rfl,rfl,by omega,H0⟩
 case round=>
  clear H0
  obtain⟨k,m,c3,A3,wh,az,ms,rfl,rfl,hk,HT⟩:=hrel
  obtain⟨g0,g1,g2,g3,g4,g5,AA,cA,g7⟩:=HT.out.st.head
  rw[show({s with whom:=wh,asks:=az}:Cs).asks.length=n from HT.out.len] at g7
  by_cases hlt:k<n
  ·have i1:(k:Int)<(n:Int):=by omega
   have i0:(0:Int)<=(k:Int):=by omega
   have hkl:k<az.length:=by rw[HT.out.len];exact hlt
   obtain⟨a,haz⟩:∃a,az[k]?=some a:=⟨_,List.getElem?_eq_getElem hkl⟩
   obtain⟨ga,hA⟩:=HT.out.st.ask (i:=k) (a:=a) haz
   obtain⟨cA2,g7b⟩:=hA.c7
   rw[g7] at g7b
   have e7:=(Value.slice.inj (Option.some.inj g7b)).1
   subst e7
   clear g7b
   have q4:=hA.q4
   have q6:=hA.q6
   have f4:=hA.fr (k*11+4)
   have HA:=As.mk hA
   have HAZ:=As.mk haz
   have hwt9:a.waited<=1001:=(HT.out.ok.asks a (List.mem_of_getElem? haz)).waited
   clear hkl haz g0 g3 g5 hA
   cases han:a.answered with
   |true=>
    rw[han] at q6
    have HN:=As.mk han
    clear han q4 f4
    go_wp2_with fail
    go_roundw
    case rel=>exact⟨k+1,m,c3,A3,wh,az,ms,by go_num,rfl,by omega,⟨HT.out.skip hlt HAZ.out HN.out (Kp.refl _ _)⟩⟩
    case measure=>simp[intOf];omega
   |false=>
    rw[han] at q6
    have HN:=As.mk han
    clear han
    obtain⟨W1,hW1⟩:∃W1,W1=wr.setCell ⟨ga,k*11+4,none⟩ (.int .i64 ((a.waited:Int)+1)):=⟨_,rfl⟩
    have hM:=HT.out.mid
    obtain⟨kS,hM1⟩:=hM.wait HAZ.out HA.out (a.waited+1)
    rw[show((a.waited+1:Nat):Int)=(a.waited:Int)+1 from rfl,<-hW1] at hM1 kS
    obtain⟨p0,p1,p2,p3,p4,p5,AB,cB,p7⟩:=hM1.st.head
    obtain⟨gb,hA1⟩:=hM1.st.ask (i:=k) (a:={a with waited:=a.waited+1}) (by show(az.set k _)[k]?=_;rw[List.getElem?_set_self (by have:=HT.out.len;omega)])
    have egb:gb=ga:=by have h1:=hA1.hga;have h2:=HA.out.hga;rw[h1] at h2;exact Option.some.inj h2
    subst egb
    have r4:W1.cell? ⟨gb,k*11+4,none⟩=some (.int .i64 ((a.waited:Int)+1)):=hA1.q4
    have r3:W1.cell? ⟨gb,k*11+3,none⟩=some (.int .i64 (a.tried:Int)):=hA1.q3
    have HW1:=As.mk hW1
    have HM1:=As.mk hM1
    have HA1:=As.mk hA1
    clear hM1 hA1 kS hW1 hM p0 p3 p5 p7
    by_cases hw:a.waited+1<cf.pat
    ·have i2:(a.waited:Int)+1<(cf.pat:Int):=by omega
     clear r3
     go_upto_region 12 with fail
     rw[<-HW1.out]
     clear q4 q6 f4 g1 g2 g4 g7
     go_quiet (fail)
     go_wp2_with fail
     go_roundw
     case rel=>exact⟨k+1,m,c3,A3,wh,_,ms,by go_num,rfl,by omega,⟨HT.out.waits hlt HAZ.out HA.out (by rw[show((a.waited+1:Nat):Int)=(a.waited:Int)+1 from rfl,<-HW1.out];exact(Kp.refl [] W1).drewN _) HN.out hw⟩⟩
     case measure=>simp[intOf];omega
    ·have i2:¬(a.waited:Int)+1<(cf.pat:Int):=by omega
     by_cases ht:cf.tries<=a.tried
     ·have i3:(cf.tries:Int)<=(a.tried:Int):=by omega
      go_upto_region 12 with fail
      rw[<-HW1.out]
      clear q4 q6 f4 g1 g2 g4 g7
      go_quiet (fail)
      have HEN:As (∀wX,Kp [] W1 wX->_):=⟨fun wX kX=>HT.out.ends (w1:=wX) hlt HAZ.out HA.out (by rw[show((a.waited+1:Nat):Int)=(a.waited:Int)+1 from rfl,<-HW1.out];exact kX) HN.out hw ht HJ.out hd9 he9⟩
      obtain⟨W2,hW2⟩:∃W2,W1.drewN nq=W2:=⟨_,rfl⟩
      have k2:Kp [] W1 W2:=by rw[<-hW2];exact(Kp.refl [] W1).drewN nq
      rw[hW2]
      have r4:=k2.cell r4 (by simp)
      have r3:=k2.cell r3 (by simp)
      have p2:=k2.cell p2 (by simp)
      have HK2:=As.mk k2
      clear hW2 k2
      go_upto_region 13 with fail
      go_quiet (fail)
      go_wp2_with (go_at_call 98;refine(HEN.out _ (HK2.out.drewN _)).mono ?_;rintro e w3 ⟨rfl,HZ⟩;clear HEN)
      go_ret
      obtain⟨z1,L',z2,z3,z4,z5⟩:=HZ.out
      have e:=HGO.out _ _ _ _ z1
      rw[if_pos rfl] at e
      rw[e]
      exact⟨L',_,rfl,z2,z3,z4,z5⟩
     ·have i3:¬(cf.tries:Int)<=(a.tried:Int):=by omega
      have hsh:=(HT.out.ok.asks a (List.mem_of_getElem? HAZ.out)).shard
      have hfr9:=(HT.out.ok.asks a (List.mem_of_getElem? HAZ.out)).frame.1
      have hwl:wh.length=cf.shards.length:=HT.out.ok.wlen
      have hgr:=HT.out.ok.cfg.grp _ (List.getElem_mem hsh)
      have hsl:=HT.out.ok.cfg.len
      have hkl:k<az.length:=by have:=HT.out.len;omega
      have haz1:(az.set k {a with waited:=a.waited+1})[k]?=some {a with waited:=a.waited+1}:=List.getElem?_set_self hkl
      obtain⟨xs,hxs⟩:∃xs,cf.shards[a.shard]=xs:=⟨_,rfl⟩
      obtain⟨wi,hwi⟩:∃wi,wh.getD a.shard 0=wi:=⟨_,rfl⟩
      have hwi9:wi<xs.length:=by
       have h1:=HT.out.ok.whom a.shard (by show a.shard<wh.length;omega) hsh
       rw[<-hwi,<-hxs]
       simpa [List.getD,show a.shard<wh.length by omega] using h1
      obtain⟨nj,hnj⟩:∃nj,xs.length=nj:=⟨_,rfl⟩
      have hgd:cf.shards.getD a.shard []=xs:=by rw[<-hxs];simp[List.getD,hsh]
      have hdw:dest cf wh a.shard=xs[wi]:=by rw[dest,hgd,hwi];simp[List.getD,hwi9]
      have nj7:nj<=7:=by have:=hgr.1.2;rw[hxs] at this;omega
      obtain⟨x,hx⟩:∃x,(wi+1)%nj=x:=⟨_,rfl⟩
      have hx9:x<nj:=by rw[<-hx];exact Nat.mod_lt _ (by omega)
      have hnw:nextW cf wh a.shard=wh.set a.shard x:=by rw[nextW,hwi,hgd,hnj,hx]
      have hdn:dest cf (wh.set a.shard x) a.shard=xs[x]'(by omega):=by rw[dest_set (by omega),if_pos rfl,hgd];simp[List.getD,show x<xs.length by omega]
      have hxi:∀q (hq:q<xs.length),q<wi->xs[q]≠xs[wi]:=fun q hq hlt2 e=>by
       have mono:∀d,∀i (h:i+d<xs.length),0<d->xs[i]<xs[i+d]:=by
        intro d
        induction d with
        |zero=>intro i h h0;omega
        |succ d ih=>
         intro i h _
         have h2:=(hgr.2 (i+d+1) (by rw[hxs];omega)).2 (by omega)
         simp only[hxs,Nat.add_sub_cancel] at h2
         by_cases h0:d=0
         ·subst h0;exact h2
         ·exact Int.lt_trans (ih i (by omega) (by omega)) h2
       have h3:=mono (wi-q) q (by omega) (by omega)
       simp only[show q+(wi-q)=wi by omega] at h3
       omega
      have HXI:=As.mk hxi
      have HDN:=As.mk hdn
      have HDW:=As.mk hdw
      have HNW:=As.mk hnw
      have HX:=As.mk hx
      have HNJ:=As.mk hnj
      have HSH:=As.mk (show ∃h:a.shard<cf.shards.length,wh.length=cf.shards.length/\Grp (cf.shards[a.shard]'h)/\cf.shards.length<=8/\cf.shards[a.shard]'h=xs from⟨hsh,hwl,hgr,hsl.2,hxs⟩)
      have HAZ1:=As.mk haz1
      have HFR:=As.mk hfr9
      have hnj9:wi<nj:=by omega
      obtain⟨ns,hns⟩:∃ns,cf.shards.length=ns:=⟨_,rfl⟩
      have hns9:a.shard<ns:=by omega
      have HNS:=As.mk hns
      have htr9:a.tried<=1001:=by have:=(HT.out.ok.asks a (List.mem_of_getElem? HAZ.out)).tried;have:=HT.out.ok.cfg.tries;omega
      clear hxi hdn hdw hnw hgd hwi hwl hsl hkl haz1 hx hfr9
      clear hgr hxs hsh
      have hgb:=HA.out.hga
      have HGB:=As.mk hgb
      clear hgb hns
      go_upto_region 12 with fail
      rw[<-HW1.out]
      clear q4 q6 f4 g1 g2 g4 g7
      go_quiet (fail)
      obtain⟨W2,hW2⟩:∃W2,W1.drewN nq=W2:=⟨_,rfl⟩
      have k2:Kp [] W1 W2:=by rw[<-hW2];exact(Kp.refl [] W1).drewN nq
      rw[hW2]
      have r4:=k2.cell r4 (by simp)
      have r3:=k2.cell r3 (by simp)
      have p2:=k2.cell p2 (by simp)
      have HK2:=As.mk k2
      clear hW2 k2 nq p1
      go_upto_region 13 with fail
      go_quiet (fail)
      obtain⟨W3,hW3⟩:∃W3,W2.drewN nq=W3:=⟨_,rfl⟩
      have k3:Kp [] W1 W3:=by rw[<-hW3];exact HK2.out.drewN nq
      rw[hW3]
      have hM3:=HM1.out.kp0 k3
      obtain⟨gc,hA3⟩:=hM3.st.ask (i:=k) HAZ1.out
      obtain rfl:gc=gb:=by have h1:=hA3.hga;rw[HGB.out] at h1;exact(Option.some.inj h1).symm
      obtain⟨kS4,hM4⟩:=hM3.retry HAZ1.out HGB.out
      obtain⟨W4,hW4⟩:∃W4,W4=(W3.setCell ⟨gc,k*11+3,none⟩ (.int .i64 ((a.tried:Int)+1))).setCell ⟨gc,k*11+5,none⟩ (.bool false):=⟨_,rfl⟩
      rw[show(({a with waited:=a.waited+1}:Ask).tried:Int)=(a.tried:Int) from rfl,<-hW4] at hM4 kS4
      have r3:W3.cell? ⟨gc,k*11+3,none⟩=some (.int .i64 (a.tried:Int)):=hA3.q3
      have r5:W3.cell? ⟨gc,k*11+5,none⟩=some (.bool a.hinted):=hA3.q5
      have f3:=hA3.fr (k*11+3)
      have f5:=hA3.fr (k*11+5)
      have HM4:=As.mk hM4
      have HW4:=As.mk hW4
      clear hW3 hM3 hA3 kS4 k3 hM4 hW4 r4 p2 p4 HK2
      go_upto_region 18 with fail
      rw[<-HW4.out]
      clear r3 r5 f3 f5
      have haz4:(az.set k {a with waited:=a.waited+1,tried:=a.tried+1,hinted:=false})[k]?=some {a with waited:=a.waited+1,tried:=a.tried+1,hinted:=false}:=List.getElem?_set_self (by have:=HT.out.len;omega)
      have hM4:=HM4.out
      rw[List.set_set] at hM4
      have hM4:TkM U L cf s w wh (az.set k {a with waited:=a.waited+1,tried:=a.tried+1,hinted:=false}) ms (.slice A3 m c3) W4:=hM4
      obtain⟨gd,hA4⟩:=hM4.st.ask (i:=k) haz4
      obtain rfl:gd=gc:=by have h1:=hA4.hga;rw[HGB.out] at h1;exact(Option.some.inj h1).symm
      obtain⟨hsh,hwl,hgr,hsl,hxs⟩:=HSH.out
      obtain⟨VSA,Ab,Ao,hW⟩:=hM4.st.wh (sh:=a.shard) hwl hsh hgr
      rw[hxs,HNJ.out] at hW
      obtain⟨b,o,cS,rfl,s3,sb,cj,sj⟩:=hW.sA
      obtain⟨cw,w4c⟩:=hW.wA
      rw[HNS.out] at s3 w4c
      have t0:W4.cell? ⟨gd,k*11,none⟩=some (.int .i64 (a.shard:Int)):=hA4.q0
      have hw0:=hW.w0
      rw[show({s with whom:=wh,asks:=az.set k {a with waited:=a.waited+1,tried:=a.tried+1,hinted:=false}}:Cs).whom=wh from rfl,HDW.out] at hw0
      obtain⟨y,hy⟩:∃y,xs[wi]=y:=⟨_,rfl⟩
      rw[hy] at hw0
      obtain⟨y2,hy2⟩:∃y2,xs[x]'(by have:=HNJ.out;omega)=y2:=⟨_,rfl⟩
      have HY:=As.mk (And.intro hy hy2)
      have wfz:=hW.wf
      have hbn:L.gw≠b/\L.gw≠Ab/\L.gw≠gd/\L.gw≠L.b:=⟨fun e=>sb (by rw[<-e];exact RLay.mem.2 (.inr (.inl rfl))),fun e=>hW.nA (by rw[<-e];exact RLay.mem.2 (.inr (.inl rfl))),fun e=>hA4.ne.2 e.symm,fun e=>by
       obtain⟨κ9,_,_,_,_,_,hp9⟩:=hM4.st
       have h1:=hp9.sep.b
       have h2:=hp9.sep.gw
       rw[e] at h2
       omega⟩
      have KX:As (∀wX,Kp [L.gw] W4 wX->wX.cell? ⟨L.b,3,none⟩=some (.slice (some ⟨b,o,none⟩) ns cS)/\wX.cell? ⟨gd,k*11,none⟩=some (.int .i64 (a.shard:Int))/\wX.cell? ⟨b,o+a.shard,none⟩=some (.slice (some ⟨Ab,Ao,none⟩) nj cj)/\wX.cell? ⟨L.b,4,none⟩=some (.slice (some ⟨L.gw,0,none⟩) ns cw)/\∀i (h:i<xs.length),wX.cell? ⟨Ab,Ao+i,none⟩=some (.int .i64 xs[i])):=⟨fun wX kX=>
       ⟨kX.cell s3 (by simpa using hbn.2.2.2.symm),kX.cell t0 (by simpa using hbn.2.2.1.symm),kX.cell sj (by simpa using hbn.1.symm),kX.cell w4c (by simpa using hbn.2.2.2.symm),fun i h=>kX.cell (hW.rd i h) (by simpa using hbn.2.1.symm)⟩⟩
      have KW:As (∀wX,Kp [] W4 wX->wX.cell? ⟨L.gw,a.shard,none⟩=some (.int .i64 y)/\wX.frozen? ⟨L.gw,a.shard,none⟩=false):=⟨fun wX kX=>⟨kX.cell hw0 (by simp),by
       obtain⟨_,_,_,hWX⟩:=(hM4.kp0 kX).st.wh (sh:=a.shard) hwl hsh hgr
       exact hWX.wf⟩⟩
      have HM:=As.mk hM4
      have j0:(0:Int)<=(a.shard:Int):=by omega
      have j1:(a.shard:Int)<(ns:Int):=by omega
      clear hM4 hA4 hW sb hw0 hy hy2 wfz hbn HM4 haz4 hxs hgr hsl hwl HM1 HA1
      clear hsh
      go_quiet (fail)
      obtain⟨W5,hW5⟩:∃W5,W4.drewN nq=W5:=⟨_,rfl⟩
      have k5:Kp [] W4 W5:=by rw[<-hW5];exact(Kp.refl [] W4).drewN nq
      rw[hW5]
      have HK5:=As.mk k5
      clear hW5 k5 s3 t0 sj w4c nq
      obtain⟨wo,rfl⟩:∃wo,wo=wr:=⟨_,rfl⟩
      go_wp2_with fail
      go_loopw [7] (fun v7 wr=>∃q:Nat,v7= .int .i64 (q:Int)/\q<=wi/\As (Kp [] W4 wr)) (fun v _=>nj-(intOf v).toNat)
      case atStart=>exact⟨0,rfl,by omega,HK5⟩
      case round=>
       obtain⟨q,rfl,hq,HKq⟩:=hrel
       have l1:(q:Int)<(nj:Int):=by omega
       have l0:(0:Int)<=(q:Int):=by omega
       have hqx:q<xs.length:=by have:=HNJ.out;omega
       obtain⟨e3,e0,ej,e4,er⟩:=KX.out wr (HKq.out.mono (by simp))
       obtain⟨ew,ef⟩:=KW.out wr HKq.out
       have eq':=er q hqx
       obtain⟨z,hz⟩:∃z,xs[q]=z:=⟨_,rfl⟩
       rw[hz] at eq'
       by_cases hqw:q=wi
       ·subst hqw
        obtain rfl:z=y:=by rw[<-hz];exact HY.out.1
        have hwx:x<xs.length:=by have:=HNJ.out;omega
        have ex:=er x hwx
        rw[HY.out.2] at ex
        clear er hz
        obtain⟨wm,rfl⟩:∃wm,wm=wr:=⟨_,rfl⟩
        go_upto_region 22 with fail
        go_quiet (fail)
        obtain⟨W6,hW6⟩:∃W6,wm.drewN nq=W6:=⟨_,rfl⟩
        have k6:Kp [] W4 W6:=by rw[<-hW6];exact HKq.out.drewN nq
        rw[hW6]
        have HX6:As (∀wX,Kp [L.gw] W6 wX->wX.cell? ⟨L.b,4,none⟩=some (.slice (some ⟨L.gw,0,none⟩) ns cw)/\wX.cell? ⟨gd,k*11,none⟩=some (.int .i64 (a.shard:Int))/\wX.cell? ⟨Ab,Ao+x,none⟩=some (.int .i64 y2)):=⟨fun wX kX=>by
         obtain⟨_,q2,_,q4,qr⟩:=KX.out wX ((k6.mono (by simp)).trans kX (fun x hx=> .inl hx))
         have qx:=qr x hwx
         rw[HY.out.2] at qx
         exact⟨q4,q2,qx⟩⟩
        obtain⟨ew,ef⟩:=KW.out W6 k6
        have HK6:=As.mk k6
        clear hW6 k6 e3 e0 ej e4 eq' ex KW
        go_upto_region 23 with fail
        have it:IntKind.i64.wrap ((q:Int)+1)=(q:Int)+1:=by rw[IntKind.wrap_i64];omega
        have hxn:=HX.out
        have im:((q:Int)+1).tmod (nj:Int)=(x:Int):=by rw[Int.tmod_eq_emod_of_nonneg (by omega),<-hxn];rfl
        have in0:¬(nj:Int)=0:=by omega
        have in1:¬nj=0:=by omega
        have im2:((q:Int)+1)%(nj:Int)=(x:Int):=by rw[<-hxn];rfl
        have in2:(0:Int)<=(q:Int)+1:=by omega
        have x0:(0:Int)<=(x:Int):=by omega
        have x1:(x:Int)<(nj:Int):=by omega
        clear hxn
        go_region_held3 (fun wX=>wX.cell? ⟨L.b,4,none⟩=some (.slice (some ⟨L.gw,0,none⟩) ns cw)/\wX.cell? ⟨gd,k*11,none⟩=some (.int .i64 (a.shard:Int))/\wX.cell? ⟨Ab,Ao+x,none⟩=some (.int .i64 y2))
         (first|exact HX6.out _ (Kp.refl _ _)|exact HX6.out _ (Kp.refl _ _).drew|exact HX6.out _ ((Kp.refl _ _).drewN _)|exact HX6.out _ ((Kp.refl _ _).setCell (.inl (by simp)) _)|exact HX6.out _ ((Kp.refl _ _).drew.setCell (.inl (by simp)) _)|exact HX6.out _ (((Kp.refl _ _).setCell (.inl (by simp)) _).drew)) (fail)
        obtain⟨W7,hW7⟩:∃W7,(W6.setCell ⟨L.gw,a.shard,none⟩ (.int .i64 y2)).drew=W7:=⟨_,rfl⟩
        rw[hW7]
        have HFIN:As (∃vs d NF,d=y2/\NF=a.frame.length/\NF<=10000/\Calls Tryz.prog 99 #[.pointer (some ⟨L.b,0,none⟩),.pointer (some ⟨gd,k*11,none⟩)] W7 fun e w8=>∃A2 c2,e= .returned (.agg #[.int .i64 (cf.id:Int),.int .i64 d,.slice A2 NF c2])/\As ((w8.alloc (.cells #[.int .i64 (cf.id:Int),.int .i64 d,.slice A2 NF c2] 44)).ownsRow 0 44 3 (.slice A3 m c3) m vs)/\
         As (∀v9 w9,w9.ownsRow 0 44 3 v9 (m+1) (vs++[.int .i64 (cf.id:Int),.int .i64 d,.slice A2 NF c2])->Kp (Value.slice A3 m c3).ownBlock.toList (w8.alloc (.cells #[.int .i64 (cf.id:Int),.int .i64 d,.slice A2 NF c2] 44)) w9->H.At (w8.heap.size+1) (Value.slice A3 m c3).ownBlock v9.ownBlock->
          ∃A9 c9,v9= .slice A9 (m+1) c9/\As (∃wh' az' ms',TkR U L cf s w n (k+1) wh' az' ms' (.slice A9 (m+1) c9) w9))):=⟨by
         obtain⟨hsh,hwl,hgr,hsl,hxs⟩:=HSH.out
         have hM6:=HM.out.kp0 HK6.out
         have hM7:=hM6.turn hwl hsh hgr x
         rw[HDN.out,HY.out.2] at hM7
         have hM7:=hM7.kp0 (w1:=W7) (by rw[<-hW7];exact(Kp.refl [] _).drew)
         rw[<-HNW.out] at hM7
         have hml:ms.length=m:=by
          obtain⟨vs,ho,_⟩:=HT.out.out
          obtain⟨_,_,e,_⟩:=own_rd ho
          cases e
          rfl
         have hkl:k<az.length:=by have:=HT.out.len;omega
         have hdd:dest cf (nextW cf wh a.shard) a.shard=y2:=by rw[HNW.out,HDN.out,HY.out.2]
         obtain⟨vs,hs⟩:=hM7.send (k:=k) (a:={a with waited:=a.waited+1,tried:=a.tried+1,hinted:=false}) (NF:=a.frame.length) (d:=y2) hml (List.getElem?_set_self hkl) hsh (by rw[nextW,List.length_set];exact hwl) hgr HT.out.own rfl hdd (HT.out.ok.asks a (List.mem_of_getElem? HAZ.out)).frame.1 hsl HGB.out
         refine⟨vs,y2,a.frame.length,rfl,rfl,(HT.out.ok.asks a (List.mem_of_getElem? HAZ.out)).frame.1,hs.mono ?_⟩
         rintro e w8 ⟨A2,c2,rfl,h1,h2⟩
         refine⟨A2,c2,rfl,h1,⟨fun v9 w9 o9 k9 a9=> ?_⟩⟩
         obtain⟨A9,c9,rfl,h3⟩:=h2.out v9 w9 o9 k9 a9
         have h4:=h3.out.1
         rw[List.set_set] at h4
         exact⟨A9,c9,rfl,⟨_,_,_,HT.out.sent hlt HAZ.out HN.out hw ht hdd h4 h3.out.2⟩⟩⟩
        have hm8:m<=8:=by
         obtain⟨vs,ho,_⟩:=HT.out.out
         obtain⟨_,_,e,_⟩:=own_rd ho
         have hml:ms.length=m:=by cases e;rfl
         have:=HT.out.few
         omega
        obtain⟨vs,d,NF,hd7,hNF7,hNF8,HFIN⟩:=HFIN.out
        have HFIN:=As.mk HFIN
        clear hd7 hNF7 hW7 it im in0 in1 im2 in2 x0 x1 HX6 HK6 ew ef HXI HDN HDW HNW HX HM HY KX HGB HSH
        clear HJ
        go_wp2_with (first
         |(go_at_call 99;refine HFIN.out.mono ?_;rintro e w8 ⟨A2,c2,rfl,HO8,HP8⟩;clear HFIN)
         |(at_builtin;refine wpList_app rfl (.tmp 125) (.tmp 129) 31 rfl 44 (.agg #[.int .i64 0,.int .i64 0,.slice none 0 0]) 3 40 Tryz.underlying31 info_msg rfl (by decide) (.slice A3 m c3) m vs rfl HO8.out (some ⟨w8.heap.size,0,none⟩) 1 1 [.int .i64 (cf.id:Int),.int .i64 d,.slice A2 NF c2] rfl rfl (rd_new w8 [.int .i64 (cf.id:Int),.int .i64 d,.slice A2 NF c2] 44) (by simp) (by simp[Value.oneCell']) (by omega) (by omega) ?_;intro v9 w9 o9 k9 a9 _;obtain⟨A9,c9,rfl,HZ9⟩:=HP8.out v9 w9 o9 k9 (by simpa using a9);clear o9 k9 a9 HO8 HP8)
         |fail)
        obtain⟨wh',az',ms',HZ⟩:=HZ9.out
        have HZ:=As.mk HZ
        go_roundw
        case rel=>exact⟨k+1,m+1,c9,A9,wh',az',ms',by go_num,rfl,by omega,HZ⟩
        case measure=>simp[intOf];omega
       ·have hne:¬z=y:=fun e=>HXI.out q hqx (by omega) (by rw[hz,HY.out.1];exact e)
        have hq2:q+1<=wi:=by omega
        clear er hz hqw ef e3 ej
        go_upto_region 22 with fail
        go_quiet (fail)
        have HKq2:As (Kp [] W4 (wr.drewN nq)):=⟨HKq.out.drewN nq⟩
        go_wp2_with fail
        go_roundw
        case rel=>exact⟨q+1,by go_num,hq2,HKq2⟩
        case measure=>simp[intOf];omega
  ·obtain rfl:k=n:=by omega
   have HZ:As (RTick U L cf T w (.returned (.slice A3 m c3)) wr):=⟨by
    have h:=HT.out
    have hg:=h.go
    rw[Nat.sub_self] at hg
    have e:=HGO.out wh az ms false (by rw[<-hg];rfl)
    rw[if_neg (by simp)] at e
    rw[e]
    exact⟨L,_,rfl,h.st.kp (Kp.refl [] wr) (by simp) (fun x hx=> .inl (List.mem_append.2 (.inr hx))),h.out,RGrew.refl _ _,h.kp⟩⟩
   clear g0 g1 g2 g3 g4 g5
   go_wp2_with fail
   go_ret
   exact HZ.out
end Go.Proofs.YtdiljpdohmeceaaGreat.co.cr
