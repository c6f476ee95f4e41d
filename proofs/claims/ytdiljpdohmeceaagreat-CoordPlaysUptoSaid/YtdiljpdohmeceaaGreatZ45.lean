/- Words and walks that this claim rests on: proved lemmas alone. -/
import Derived.Test.YtdiljpdohmeceaaGreatZ12
set_option maxHeartbeats 16000000
set_option maxRecDepth 100000
namespace Go.Proofs.YtdiljpdohmeceaaGreat.co
open Go.RowKit H O opk frame wir
open cr (RDone)
theorem RsOk.get{S:List Nat}{w:World}:∀{l:List Res} {vs:List Value} {i:Nat} {r:Res},RsOk S w l vs->l[i]?=some r->∃a,ResOk S w r a/\∀j v,a[j]?=some v->vs[i*6+j]?=some v
 |[],_,i,r,_,h=>by simp at h
 |r0::l,_,0,r,⟨a,b,h1,h2,h3⟩,h=>by
  subst h1
  simp only[List.getElem?_cons_zero,Option.some.injEq] at h
  subst h
  exact⟨a,h2,fun j v hv=>by
   have hl:=(List.getElem?_eq_some_iff.1 hv).1
   rw[Nat.zero_mul,Nat.zero_add,List.getElem?_append_left hl]
   exact hv⟩
 |r0::l,_,i+1,r,⟨a,b,h1,h2,h3⟩,h=>by
  subst h1
  obtain⟨c,g1,g2⟩:=RsOk.get h3 (by simpa using h)
  have hl:a.length=6:=by
   obtain⟨tv,MV,rfl,_⟩:=h2
   rfl
  exact⟨c,g1,fun j v hv=>by
   rw[List.getElem?_append_right (by omega),hl,show(i+1)*6+j-6=i*6+j by omega]
   exact g2 j v hv⟩
structure ResAt(w:World)(g o:Nat)(r:Res)(A:Option Addr)(c:Nat)(B:Option Addr)(d:Nat):Prop where
 c0:w.cell? ⟨g,o,none⟩=some (.int .i64 (r.job:Int))
 c1:w.cell? ⟨g,o+1,none⟩=some (.int .i64 r.err)
 c2:w.cell? ⟨g,o+2,none⟩=some (.bool r.was)
 c3:w.cell? ⟨g,o+3,none⟩=some (.bool r.has)
 c4:w.cell? ⟨g,o+4,none⟩=some (.slice A r.text.length c)
 c5:w.cell? ⟨g,o+5,none⟩=some (.slice B r.ms.length d)
 rt:Rd w A (iv .u8 r.text)
 rm:Rd w B (mv r.ms)
 lt:r.text.length<=9223372036854775807
 lm:r.ms.length<=9223372036854775807
theorem res_at{e:TypeId}{S:List Nat}{w:World}{v:Value}{l:List Res}{vs:List Value}{i:Nat}{r:Res}(ho:w.ownsRow 0 e 6 v l.length vs)(hr:RsOk S w l vs)(hi:l[i]?=some r):∃g cc A c B d,v= .slice (some ⟨g,0,none⟩) l.length cc/\ResAt w g (i*6) r A c B d:=by
 have hl:=(List.getElem?_eq_some_iff.1 hi).1
 obtain⟨g,cc,rfl,_,_⟩:=own_form ho (by omega)
 obtain⟨A9,c9,e9,_,_,hrd,_⟩:=own_rd ho
 cases e9
 obtain⟨a,h1,h2⟩:=hr.get hi
 obtain⟨tv,MV,rfl,⟨A,c,rfl,t1,t3,t4,_⟩,⟨B,d,rfl,t2,t5,t6,_⟩⟩:=h1
 have cell:∀j v,([.int .i64 (r.job:Int),.int .i64 r.err,.bool r.was,.bool r.has,.slice A r.text.length c,.slice B r.ms.length d]:List Value)[j]?=some v->w.cell? ⟨g,i*6+j,none⟩=some v:=fun j v hv=>by
  obtain⟨a9,e9,c9⟩:=hrd _ v (h2 j v hv)
  cases e9
  rw[Go.WideShapes.add_plain,Nat.zero_add] at c9
  exact c9
 exact⟨g,cc,A,c,B,d,rfl,cell 0 _ rfl,cell 1 _ rfl,cell 2 _ rfl,cell 3 _ rfl,cell 4 _ rfl,cell 5 _ rfl,t1.rd,t2.rd,Nat.le_trans t3 t4,Nat.le_trans t5 t6⟩
theorem ResAt.kp{w w1:World}{g o:Nat}{r:Res}{A:Option Addr}{c:Nat}{B:Option Addr}{d:Nat}(h:ResAt w g o r A c B d)(k:Kp [] w w1):ResAt w1 g o r A c B d:=
 ⟨k.cell h.c0 (by simp),k.cell h.c1 (by simp),k.cell h.c2 (by simp),k.cell h.c3 (by simp),k.cell h.c4 (by simp),k.cell h.c5 (by simp),k.rd_new h.rt (by simp),k.rd_new h.rm (by simp),h.lt,h.lm⟩
theorem res_two1(w:World)(a b:Obj):((w.alloc a).alloc b).heap[w.heap.size]?=some a:=by
 rw[Below.heap_alloc (w.alloc a) b w.heap.size (by simp)]
 exact heap_alloc_new w a
theorem res_two2(w:World)(a b:Obj):((w.alloc a).alloc b).heap[w.heap.size+1]?=some b:=by
 have:=heap_alloc_new (w.alloc a) b
 rwa[World.size_alloc] at this
theorem results_any(S1 S2:List Nat)(w:World)(av bv:Value)(l:List Res)(n:Nat)(hn:l.length=n)(ha:DoneAt S1 w av av.ownBlock l)(hb:RDone S2 w bv bv.ownBlock l)(hl:n<=1000000):
 Calls Tryz.prog 21 #[av,bv] w fun e w'=>e= .returned (.bool true)/\Kp [] w w':=by
 obtain⟨vs,o1,_,r1⟩:=ha
 obtain⟨us,o2,_,r2⟩:=hb
 obtain⟨A1,c1,rfl,_,_,_,_⟩:=own_rd o1
 obtain⟨A2,c2,rfl,_,_,_,_⟩:=own_rd o2
 have HG:As (∀i r,l[i]?=some r->(∃g A c B d,A1=some ⟨g,0,none⟩/\ResAt w g (i*6) r A c B d)/\(∃g A c B d,A2=some ⟨g,0,none⟩/\ResAt w g (i*6) r A c B d)):=⟨fun i r hi=>by
  obtain⟨g,cc,A,c,B,d,e,h⟩:=res_at o1 r1 hi
  obtain⟨g',cc',A',c',B',d',e',h'⟩:=res_at o2 r2 hi
  cases e
  cases e'
  exact⟨⟨g,A,c,B,d,rfl,h⟩,⟨g',A',c',B',d',rfl,h'⟩⟩⟩
 rw[hn]
 have HN:=As.mk hn
 have nb:((n:Int) !=(n:Int))=false:=by simp
 clear o1 o2 r1 r2 hn
 go_enter Tryz.func21,Tryz.ntmps21
 go_wp2_with fail
 go_loopw [5] (fun v wr=>∃k:Nat,v= .int .i64 (k:Int)/\k<=n/\As (Kp [] w wr)) (fun v _=>n-(intOf v).toNat)
 case atStart=>exact⟨0,rfl,by omega,⟨Kp.refl _ _⟩⟩
 case round=>
  obtain⟨k,rfl,hk,HK⟩:=hrel
  obtain⟨wo,rfl⟩:∃wo,wo=wr:=⟨_,rfl⟩
  by_cases hlt:k<n
  ·have i1:(k:Int)<(n:Int):=by omega
   have i0:(0:Int)<=(k:Int):=by omega
   obtain⟨r,hr⟩:∃r,l[k]?=some r:=⟨_,List.getElem?_eq_getElem (by rw[HN.out];exact hlt)⟩
   obtain⟨⟨g1,A,c,B,d,rfl,x⟩,⟨g2,A',c',B',d',rfl,y⟩⟩:=HG.out k r hr
   have hzz:=And.intro x.lt x.lm
   have x:=x.kp HK.out
   have y:=y.kp HK.out
   obtain⟨job,er,was,has,text,ms⟩:=r
   obtain⟨nt,hnt⟩:∃m,text.length=m:=⟨_,rfl⟩
   obtain⟨nm,hnm⟩:∃m,ms.length=m:=⟨_,rfl⟩
   have x0:=x.c0
   have x1:=x.c1
   have x2:=x.c2
   have x3:=x.c3
   have x4:wo.cell? ⟨g1,k*6+4,none⟩=some (.slice A nt c):=by rw[<-hnt];exact x.c4
   have x5:wo.cell? ⟨g1,k*6+5,none⟩=some (.slice B nm d):=by rw[<-hnm];exact x.c5
   have y0:=y.c0
   have y1:=y.c1
   have y2:=y.c2
   have y3:=y.c3
   have y4:wo.cell? ⟨g2,k*6+4,none⟩=some (.slice A' nt c'):=by rw[<-hnt];exact y.c4
   have y5:wo.cell? ⟨g2,k*6+5,none⟩=some (.slice B' nm d'):=by rw[<-hnm];exact y.c5
   obtain⟨jb,hjb⟩:∃j:Int,(job:Int)=j:=⟨_,rfl⟩
   have x0:wo.cell? ⟨g1,k*6,none⟩=some (.int .i64 jb):=by rw[<-hjb];exact x0
   have y0:wo.cell? ⟨g2,k*6,none⟩=some (.int .i64 jb):=by rw[<-hjb];exact y0
   have x1:wo.cell? ⟨g1,k*6+1,none⟩=some (.int .i64 er):=x1
   have y1:wo.cell? ⟨g2,k*6+1,none⟩=some (.int .i64 er):=y1
   have x2:wo.cell? ⟨g1,k*6+2,none⟩=some (.bool was):=x2
   have y2:wo.cell? ⟨g2,k*6+2,none⟩=some (.bool was):=y2
   have x3:wo.cell? ⟨g1,k*6+3,none⟩=some (.bool has):=x3
   have y3:wo.cell? ⟨g2,k*6+3,none⟩=some (.bool has):=y3
   have HXY:=As.mk (And.intro x.rt (And.intro x.rm (And.intro y.rt y.rm)))
   have HNT:=As.mk (And.intro hnt hnm)
   have hzt:nt<=9223372036854775807:=by rw[<-hnt];exact hzz.1
   have hzm:nm<=9223372036854775807:=by rw[<-hnm];exact hzz.2
   have KX:As (∀wX,Kp [] wo wX->(wX.cell? ⟨g1,k*6,none⟩=some (.int .i64 jb)/\wX.cell? ⟨g1,k*6+1,none⟩=some (.int .i64 er)/\wX.cell? ⟨g1,k*6+2,none⟩=some (.bool was)/\wX.cell? ⟨g1,k*6+3,none⟩=some (.bool has)/\wX.cell? ⟨g1,k*6+4,none⟩=some (.slice A nt c)/\wX.cell? ⟨g1,k*6+5,none⟩=some (.slice B nm d)/\
    wX.cell? ⟨g2,k*6,none⟩=some (.int .i64 jb)/\wX.cell? ⟨g2,k*6+1,none⟩=some (.int .i64 er)/\wX.cell? ⟨g2,k*6+2,none⟩=some (.bool was)/\wX.cell? ⟨g2,k*6+3,none⟩=some (.bool has)/\wX.cell? ⟨g2,k*6+4,none⟩=some (.slice A' nt c')/\wX.cell? ⟨g2,k*6+5,none⟩=some (.slice B' nm d'))):=⟨fun wX kX=>
     ⟨kX.cell x0 (by simp),kX.cell x1 (by simp),kX.cell x2 (by simp),kX.cell x3 (by simp),kX.cell x4 (by simp),kX.cell x5 (by simp),kX.cell y0 (by simp),kX.cell y1 (by simp),kX.cell y2 (by simp),kX.cell y3 (by simp),kX.cell y4 (by simp),kX.cell y5 (by simp)⟩⟩
   have ej:(jb !=jb)=false:=by simp
   have ee:(er !=er)=false:=by simp
   have ew:(was !=was)=false:=by simp
   have eh:(has !=has)=false:=by simp
   have em:((nm:Int) !=(nm:Int))=false:=by simp
   clear x y hr hzz hnt hnm hjb
   go_upto_region 6 with fail
   go_cut [6,7] from 20 to 27 (fun v6 v7 wx=>∃(xb yb:Nat) (w3:World),w3=wx/\(.pointer (some ⟨xb,0,none⟩):Value)=v6/\(.pointer (some ⟨yb,0,none⟩):Value)=v7/\w3.heap[xb]?=some (.cells #[.int .i64 jb,.int .i64 er,.bool was,.bool has,.slice A nt c,.slice B nm d] 61 (0,0))/\w3.heap[yb]?=some (.cells #[.int .i64 jb,.int .i64 er,.bool was,.bool has,.slice A' nt c',.slice B' nm d'] 138 (0,0))/\As (Kp [] wo w3))
   case first=>
    go_region_held3 (fun wX=>wX.cell? ⟨g1,k*6,none⟩=some (.int .i64 jb)/\wX.cell? ⟨g1,k*6+1,none⟩=some (.int .i64 er)/\wX.cell? ⟨g1,k*6+2,none⟩=some (.bool was)/\wX.cell? ⟨g1,k*6+3,none⟩=some (.bool has)/\wX.cell? ⟨g1,k*6+4,none⟩=some (.slice A nt c)/\wX.cell? ⟨g1,k*6+5,none⟩=some (.slice B nm d)/\
     wX.cell? ⟨g2,k*6,none⟩=some (.int .i64 jb)/\wX.cell? ⟨g2,k*6+1,none⟩=some (.int .i64 er)/\wX.cell? ⟨g2,k*6+2,none⟩=some (.bool was)/\wX.cell? ⟨g2,k*6+3,none⟩=some (.bool has)/\wX.cell? ⟨g2,k*6+4,none⟩=some (.slice A' nt c')/\wX.cell? ⟨g2,k*6+5,none⟩=some (.slice B' nm d'))
     (first|exact KX.out _ (Kp.refl _ _)|exact KX.out _ (Kp.refl _ _).drew|exact KX.out _ ((Kp.refl _ _).drewN _)|exact KX.out _ ((Kp.refl _ _).alloc _)|exact KX.out _ ((Kp.refl _ _).drew.alloc _)|exact KX.out _ ((Kp.refl _ _).alloc _).drew|exact KX.out _ (((Kp.refl _ _).drewN _).alloc _)|exact KX.out _ (((Kp.refl _ _).alloc _).alloc _)|exact KX.out _ ((((Kp.refl _ _).drewN _).alloc _).alloc _)) (fail)
    all_goals
     go_wp2_with fail
     go_meet
     first
     |exact⟨_,_,_,rfl,rfl,rfl,by first|exact res_two1 _ _ _|exact res_two2 _ _ _,by first|exact res_two1 _ _ _|exact res_two2 _ _ _,⟨((Kp.refl [] wo).alloc _).alloc _⟩⟩
     |exact⟨_,_,_,rfl,rfl,rfl,by first|exact res_two1 _ _ _|exact res_two2 _ _ _,by first|exact res_two1 _ _ _|exact res_two2 _ _ _,⟨(((Kp.refl [] wo).alloc _).alloc _).drew⟩⟩
   case rest=>
    obtain⟨xb,yb,w3,rfl,rfl,rfl,hx,hy,HK3⟩:=hcut
    have p0:=bkc hx 0 rfl
    have p1:=bkc hx 1 rfl
    have p2:=bkc hx 2 rfl
    have p3:=bkc hx 3 rfl
    have p4:w3.cell? ⟨xb,4,none⟩=some (.slice A nt c):=bkc hx 4 rfl
    have p5:w3.cell? ⟨xb,5,none⟩=some (.slice B nm d):=bkc hx 5 rfl
    have q0:=bkc hy 0 rfl
    have q1:=bkc hy 1 rfl
    have q2:=bkc hy 2 rfl
    have q3:=bkc hy 3 rfl
    have q4:w3.cell? ⟨yb,4,none⟩=some (.slice A' nt c'):=bkc hy 4 rfl
    have q5:w3.cell? ⟨yb,5,none⟩=some (.slice B' nm d'):=bkc hy 5 rfl
    have HSM:As (Calls Tryz.prog 14 #[.slice A nt c,.slice A' nt c'] w3 fun e w'=>e= .returned (.bool true)/\∃q,w'=w3.drewN q):=⟨by
     have h:=haystacklaw24.same_any A A' nt c nt c' text text w3 HNT.out.1 HNT.out.1 (HK3.out.rd_new HXY.out.1 (by simp)) (HK3.out.rd_new HXY.out.2.2.1 (by simp)) (by rw[HNT.out.1];omega)
     rw[decide_eq_true rfl] at h
     exact h⟩
    clear x0 x1 x2 x3 x4 x5 y0 y1 y2 y3 y4 y5 KX hx hy
    go_wp2_with (go_at_call 14;refine HSM.out.mono ?_;rintro e w4 ⟨rfl,q,hq4⟩;have HK4:As (Kp [] w3 w4):=⟨by rw[hq4];exact(Kp.refl [] w3).drewN _⟩;have p5:=HK4.out.cell p5 (by simp);have q5:=HK4.out.cell q5 (by simp);clear hq4 HSM)
    have HK9:As (Kp [] w w4):=⟨(HK.out.trans HK3.out (by simp)).trans HK4.out (by simp)⟩
    have HQ9:As (Rd w4 B (mv ms)/\Rd w4 B' (mv ms)):=⟨(HK3.out.trans HK4.out (by simp)).rd_new HXY.out.2.1 (by simp),(HK3.out.trans HK4.out (by simp)).rd_new HXY.out.2.2.2 (by simp)⟩
    clear HK HXY p0 p1 p2 p3 p4 q0 q1 q2 q3 q4 HK3 HK4
    go_loopw [8] (fun v wr=>∃j:Nat,v= .int .i64 (j:Int)/\j<=nm/\As (Kp [] w4 wr)) (fun v _=>nm-(intOf v).toNat)
    case atStart=>exact⟨0,rfl,by omega,⟨Kp.refl _ _⟩⟩
    case round=>
     obtain⟨j,rfl,hj,HKJ⟩:=hrel
     have p5:=HKJ.out.cell p5 (by simp)
     have q5:=HKJ.out.cell q5 (by simp)
     by_cases hlj:j<nm
     ·have j1:(j:Int)<(nm:Int):=by omega
      have j0:(0:Int)<=(j:Int):=by omega
      have hlj':j<ms.length:=by rw[HNT.out.2];exact hlj
      obtain⟨b1,o1,rfl,d0,d1⟩:=mv_at (HKJ.out.rd_new HQ9.out.1 (by simp)) j hlj'
      obtain⟨b2,o2,rfl,f0,f1⟩:=mv_at (HKJ.out.rd_new HQ9.out.2 (by simp)) j hlj'
      obtain⟨kk,hkk⟩:∃kk,ms[j].1=kk:=⟨_,rfl⟩
      obtain⟨kx,hkx⟩:∃kk,ms[j].2=kk:=⟨_,rfl⟩
      rw[hkk] at d0 f0
      rw[hkx] at d1 f1
      have HKJ2:=HKJ
      clear hkk hkx hlj' hlj
      go_wp2_with fail
      go_quiet (fail)
      go_wp2_with fail
      go_roundw
      case rel=>exact⟨j+1,by go_num,by omega,⟨HKJ2.out.drewN _⟩⟩
      case measure=>simp[intOf];omega
     ·obtain rfl:j=nm:=by omega
      have j1:¬(j:Int)<(j:Int):=by omega
      go_wp2_with fail
      go_roundw
      case rel=>exact⟨k+1,by go_num,by omega,⟨HK9.out.trans HKJ.out (by simp)⟩⟩
      case measure=>simp[intOf];omega
  ·have i1:¬(k:Int)<(n:Int):=by omega
   go_wp2_with fail
   go_ret
   exact⟨rfl,HK.out⟩
end Go.Proofs.YtdiljpdohmeceaaGreat.co
