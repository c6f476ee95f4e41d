/- Words and walks that this claim rests on: proved lemmas alone. -/
import Derived.Test.YtdiljpdohmeceaaGreatZ26
import Derived.Laws.MakeOwn
set_option maxHeartbeats 16000000
set_option maxRecDepth 100000
namespace Go.Proofs.YtdiljpdohmeceaaGreat.co.cr
open Go.RowKit H O opk frame wir
theorem run_make_match(w:World)(n:Nat)(hn:n<=1000000):∃w1,(Instr.makeSlice 59 (.int .i64 0) (.int .i64 (n:Int))).run Tryz.prog w= .ok (.slice (some ⟨w.heap.size,0,none⟩) 0 n) w1/\w1.ownsRow 0 73 2 (.slice (some ⟨w.heap.size,0,none⟩) 0 n) 0 []/\Kp [] w w1:=by
 obtain⟨ti,hti,hti2⟩:=Option.map_eq_some_iff.1 so.info_match
 obtain⟨q1,q2,q3⟩:ti.zero=some (.agg #[.string ⟨#[]⟩,.int .i64 0])/\ti.size=2/\ti.bytes=24:=by simpa using hti2
 obtain⟨w1,h1,h2,h3⟩:=run_make_own (P:=Tryz.prog) w 0 59 73 ti _ 2 Tryz.underlying59 hti q1 q2 .i64 .i64 n (by rw[q3];omega) (by simp[maxLen];omega) (Nat.zero_le _)
 exact⟨w1,h1,h2,(Kp.refl [] w).grown h3 (by simp)⟩
structure MgO(w:World)(v:Value)(n:Nat)(l:List Mch)(wr:World):Prop where
 len:l.length=n
 own:wr.ownsRow 0 73 2 v n (mv l)
 lo:∀g,v.ownBlock=some g->w.heap.size<=g
 kp:Kp [] w wr
theorem MgO.kp0{w wr w1:World}{v:Value}{n:Nat}{l:List Mch}(h:MgO w v n l wr)(k:Kp [] wr w1):MgO w v n l w1:=⟨h.len,k.own h.own (by simp),h.lo,h.kp.trans k (by simp)⟩
theorem MgO.low{w0 w wr:World}{v:Value}{n:Nat}{l:List Mch}(h:MgO w v n l wr)(k:Kp [] w0 w):MgO w0 v n l wr:=⟨h.len,h.own,fun g e=>Nat.le_trans k.size (h.lo g e),k.trans h.kp (by simp)⟩
theorem MgO.app{w wr w3:World}{v v3:Value}{n m:Nat}{l r:List Mch}(h:MgO w v n l wr)(hr:r.length=m)(o:w3.ownsRow 0 73 2 v3 (n+m) (mv l++mv r))(k:Kp v.ownBlock.toList wr w3)(a:At wr.heap.size v.ownBlock v3.ownBlock):MgO w v3 (n+m) (l++r) w3:=by
 refine⟨by rw[List.length_append,h.len,hr],by rw[mv_app];exact o,a.ge h.kp.size h.lo,h.kp.trans k (fun x hx=> .inr (h.lo x (by simpa using hx)))⟩
theorem own0(w:World):(w.alloc (.cells #[] 73)).ownsRow 0 73 2 (.slice (some ⟨w.heap.size,0,none⟩) 0 0) 0 []:=⟨rfl,.inr ⟨w.heap.size,0,#[],rfl,Nat.zero_le _,heap_alloc_new w _,Nat.le_refl _,Nat.zero_le _,rfl,rfl⟩⟩
theorem MgO.at{w wr:World}{A:Option Addr}{n c:Nat}{l:List Mch}(h:MgO w (.slice A n c) n l wr)(i:Nat)(hi:i<n):∃g key x,A=some ⟨g,0,none⟩/\l[i]?=some (key,x)/\wr.cell? ⟨g,i*2,none⟩=some (.string key)/\wr.cell? ⟨g,i*2+1,none⟩=some (.int .i64 x):=by
 have hl:=h.len
 obtain⟨g,c2,e,_,_⟩:=own_form h.own (by omega)
 cases e
 obtain⟨A3,c3,e,_,_,hr,_⟩:=own_rd h.own
 cases e
 obtain⟨b,o,e,d0,d1⟩:=mv_at hr i (by omega)
 cases e
 rw[Nat.zero_add] at d0 d1
 exact⟨g,l[i].1,l[i].2,rfl,by rw[List.getElem?_eq_getElem (by omega)],d0,d1⟩
def MgPost(w:World)(n:Nat)(l:List Mch)(e:Ending)(w':World):Prop:=∃v,e= .returned v/\MgO w v n l w'
theorem merged_any(A B:Option Addr)(n m c d:Nat)(xs ys:List Mch)(w:World)(hn:xs.length=n)(hm:ys.length=m)(hr:Rd w A (mv xs))(hr2:Rd w B (mv ys))(hnil:A=none->c=0)(hnil2:B=none->d=0)(h9:n+m<=100000):
 Calls Tryz.prog 132 #[.slice A n c,.slice B m d] w (MgPost w (n+m) (sortM (xs++ys))):=by
 obtain⟨N,hN⟩:∃N,n+m=N:=⟨_,rfl⟩
 rw[hN]
 have k0:Kp [] w (w.alloc (.cells #[] 73)):=(Kp.refl [] w).alloc _
 have H0:As (MgO w (.slice (some ⟨w.heap.size,0,none⟩) 0 0) 0 [] (w.alloc (.cells #[] 73))):=⟨rfl,own0 w,fun g e=>by cases e;exact Nat.le_refl _,k0⟩
 have HR1:=As.mk (k0.rd_new hr (by simp))
 have HX1:As (∀v2 w2,w2.ownsRow 0 73 2 v2 (0+n) ([]++mv xs)->Kp (Value.slice (some ⟨w.heap.size,0,none⟩) 0 0).ownBlock.toList (w.alloc (.cells #[] 73)) w2->At (w.heap.size+1) (Value.slice (some ⟨w.heap.size,0,none⟩) 0 0).ownBlock v2.ownBlock->
  ∃A2 c2,v2= .slice A2 n c2/\As (MgO w (.slice A2 n c2) n xs w2/\Rd w2 B (mv ys))):=⟨fun v2 w2 o k a=>by
  have h:=H0.out.app (r:=xs) hn (by simpa [mv_nil] using o) k (by simpa using a)
  rw[Nat.zero_add,List.nil_append] at h
  obtain⟨A2,c2,rfl,_⟩:=own_rd h.own
  exact⟨A2,c2,rfl,⟨h,h.kp.rd_new hr2 (by simp)⟩⟩⟩
 have HX2:As (∀A2 c2 w2,MgO w (.slice A2 n c2) n xs w2->∀v3 w3,w3.ownsRow 0 73 2 v3 (n+m) (mv xs++mv ys)->Kp (Value.slice A2 n c2).ownBlock.toList w2 w3->At w2.heap.size (Value.slice A2 n c2).ownBlock v3.ownBlock->
  ∃A3 c3,v3= .slice A3 N c3/\As (MgO w (.slice A3 N c3) N (xs++ys) w3)):=⟨fun A2 c2 w2 h v3 w3 o k a=>by
  have h:=h.app (r:=ys) hm o k a
  rw[hN] at h
  obtain⟨A2,c2,rfl,_⟩:=own_rd h.own
  exact⟨A2,c2,rfl,⟨h⟩⟩⟩
 have HLN:=As.mk (show(mv xs).length=n*2/\(mv ys).length=m*2 by rw[mv_len,mv_len,hn,hm];exact⟨rfl,rfl⟩)
 have HNL:=As.mk (And.intro hnil hnil2)
 have hN9:N<=100000:=by omega
 have hnm:n<=100000/\m<=100000:=by omega
 have HNM:As (n+m<=100000):=⟨h9⟩
 clear hn hm hr hr2 hnil hnil2 hN k0 h9
 go_enter Tryz.func132,Tryz.ntmps132
 go_upto_region 2 with(first
  |(at_builtin;refine wpList_app rfl (.tmp 13) (.tmp 14) 59 rfl 73 (.agg #[.string ⟨#[]⟩,.int .i64 0]) 2 24 Tryz.underlying59 so.info_match (by kernel_rfl) (by decide) (.slice (some ⟨w.heap.size,0,none⟩) 0 0) 0 [] rfl H0.out.own A n c (mv xs) rfl HLN.out.1 HR1.out HNL.out.1 (mv_one xs) (by omega) (by omega) ?_;intro v2 w2 o2 k2 a2 _;obtain⟨A2,c2,rfl,HM2⟩:=HX1.out v2 w2 o2 k2 (by simpa using a2);clear o2 k2 a2)
  |(at_builtin;refine wpList_app rfl (.tmp 15) (.tmp 16) 59 rfl 73 (.agg #[.string ⟨#[]⟩,.int .i64 0]) 2 24 Tryz.underlying59 so.info_match (by kernel_rfl) (by decide) (.slice A2 n c2) n (mv xs) rfl HM2.out.1.own B m d (mv ys) rfl HLN.out.2 HM2.out.2 HNL.out.2 (mv_one ys) (by omega) (by have:=HNM.out;omega) ?_;intro v3 w3 o3 k3 a3 _;obtain⟨A3,c3,rfl,HM3⟩:=HX2.out _ _ _ HM2.out.1 v3 w3 o3 k3 a3;clear o3 k3 a3)
  |fail)
 have HS:As (Pass (xs++ys) 1 (xs++ys)):=⟨Pass.start _⟩
 clear H0 HR1 HX1 HX2 HLN HNL HNM HM2 hnm
 go_wp2_with fail
 go_loopw [5,6] (fun v5 v6 wr=>∃(wd cA:Nat) (AA:Option Addr) (l:List Mch),v5= .slice AA N cA/\v6= .int .i64 (wd:Int)/\1<=wd/\wd<=200000/\As (Pass (xs++ys) wd l/\MgO w (.slice AA N cA) N l wr)) (fun _ i _=>N-(intOf i).toNat)
 case atStart=>exact⟨1,_,_,_,rfl,rfl,by omega,by omega,⟨HS.out,HM3.out⟩⟩
 case round=>
  clear HS HM3
  obtain⟨wd,cA,AA,l,rfl,rfl,hw1,hw2,HI⟩:=hrel
  by_cases hlt:wd<N
  ·have i1:(wd:Int)<(N:Int):=by omega
   obtain⟨w1,hmk,ho1,hk1⟩:=run_make_match wr N (by omega)
   have HO1:As (MgO wr (.slice (some ⟨wr.heap.size,0,none⟩) 0 N) 0 [] w1):=⟨rfl,ho1,fun g e=>by cases e;exact Nat.le_refl _,hk1⟩
   clear ho1 hk1
   obtain⟨wo,rfl⟩:∃wo,wo=wr:=⟨_,rfl⟩
   go_wp2_with fail
   go_loopw [7,8] (fun v7 v8 wr=>∃(t xx p c7:Nat) (A7:Option Addr) (out:List Mch),v8= .int .i64 (xx:Int)/\v7= .slice A7 p c7/\xx<=400000/\As (xx=t*(2*wd)/\p=min xx N/\Passed wd l p out/\MgO wo (.slice A7 p c7) p out wr)) (fun _ i _=>N-(intOf i).toNat)
   case atStart=>exact⟨0,0,0,_,_,[],rfl,rfl,by omega,⟨by omega,by omega,Passed.zero _ _,HO1.out⟩⟩
   case round=>
    clear HO1 hmk
    obtain⟨t,xx,p,c7,A7,out,rfl,rfl,hxx,HP⟩:=hrel
    obtain⟨a2,ha2⟩:∃a2,2*wd=a2:=⟨_,rfl⟩
    have e2:(2:Int)*(wd:Int)=(a2:Int):=by omega
    by_cases hxn:xx<N
    ·obtain⟨a1,ha1⟩:∃a1,xx+wd=a1:=⟨_,rfl⟩
     obtain⟨a3,ha3⟩:∃a3,xx+a2=a3:=⟨_,rfl⟩
     obtain⟨mm,hmm⟩:∃mm,mm=min a1 N:=⟨_,rfl⟩
     obtain⟨zz,hzz⟩:∃zz,zz=min a3 N:=⟨_,rfl⟩
     have e1:(xx:Int)+(wd:Int)=(a1:Int):=by omega
     have e3:(xx:Int)+(a2:Int)=(a3:Int):=by omega
     have i2:(xx:Int)<(N:Int):=by omega
     have b1:xx<=mm/\mm<=zz/\zz<=N/\a2<=400000/\a3<=800000/\a1<=800000:=by omega
     have hpx:p=xx:=by have:=HP.out.2.1;omega
     have HN1:As (mm=min (xx+wd) l.length/\zz=min (xx+2*wd) l.length/\a3=(t+1)*(2*wd)/\zz=min a3 N/\p=xx):=⟨by
      have hl:=HI.out.2.len
      have:=HP.out.1
      have e9:(t+1)*(2*wd)=t*(2*wd)+2*wd:=Nat.succ_mul _ _
      exact⟨by omega,by omega,by omega,hzz,hpx⟩⟩
     have HWR:=As.mk (Eq.refl wr)
     have b2:a3<=800000:=b1.2.2.2.2.1
     have b3:a1<=800000:=b1.2.2.2.2.2
     have b4:a2<=400000:=b1.2.2.2.1
     have b5:xx<=mm:=b1.1
     have b6:mm<=zz:=b1.2.1
     have b7:zz<=N:=b1.2.2.1
     have HMZ:=As.mk (And.intro hmm hzz)
     clear b1 hpx hmm hzz ha1 ha3 ha2
     obtain⟨wp,rfl⟩:∃wp,wp=wr:=⟨_,rfl⟩
     go_upto_region 9 with fail
     go_cut [9,10] from 35 to 47 (fun v9 v10 wx=>v9= .int .i64 (mm:Int)/\v10= .int .i64 (zz:Int)/\As (wx=wp))
     case first=>
      by_cases q1:(N:Int)<(a1:Int)
      ·have q2:(N:Int)<(a3:Int):=by have:=HN1.out;omega
       go_wp2_with fail
       go_meet
       exact⟨by have:=HMZ.out;congr 1;omega,by have:=HMZ.out;congr 1;omega,⟨rfl⟩⟩
      ·by_cases q2:(N:Int)<(a3:Int)
       ·go_wp2_with fail
        go_meet
        exact⟨by have:=HMZ.out;congr 1;omega,by have:=HMZ.out;congr 1;omega,⟨rfl⟩⟩
       ·go_wp2_with fail
        go_meet
        exact⟨by have:=HMZ.out;congr 1;omega,by have:=HMZ.out;congr 1;omega,⟨rfl⟩⟩
     case rest=>
      obtain⟨rfl,rfl,HWC⟩:=hcut
      have HPW:As (MgO wo (.slice A7 p c7) p out wc):=⟨by rw[HWC.out];exact HP.out.2.2.2⟩
      have HMR:As (Mrging l mm zz (out++mrg (cut l xx mm) (cut l mm zz)) xx mm out):=⟨by
       have:=HN1.out.2.2.2.2
       have hp:=HP.out.2.2.1
       rw[this] at hp
       exact Mrging.start hp b5 b6 (by rw[HI.out.2.len];exact b7)⟩
      clear HWC
      obtain⟨wq,rfl⟩:∃wq,wq=wc:=⟨_,rfl⟩
      go_wp2_with fail
      go_loopw [7,11,12] (fun v7 v11 v12 wr=>∃(i k q c3:Nat) (A3:Option Addr) (o3:List Mch),v11= .int .i64 (i:Int)/\v12= .int .i64 (k:Int)/\v7= .slice A3 q c3/\i<=mm/\k<=zz/\As (Mrging l mm zz (out++mrg (cut l xx mm) (cut l mm zz)) i k o3/\MgO wo (.slice A3 q c3) q o3 wr)) (fun _ i k _=>(mm-(intOf i).toNat)+(zz-(intOf k).toNat))
      case atStart=>exact⟨xx,mm,p,c7,A7,out,rfl,rfl,rfl,b5,b6,⟨HMR.out,HPW.out⟩⟩
      case round=>
       clear HMR HPW
       obtain⟨i,k,q,c3,A3,o3,rfl,rfl,rfl,hi,hk,HG⟩:=hrel
       have HLQ:As (o3.length=q):=⟨HG.out.2.len⟩
       have HL:As (MgO w (.slice AA N cA) N l wr):=⟨HI.out.2.kp0 HG.out.2.kp⟩
       have HPUT:As (∀key x wX v9 w9,Kp [] wr wX->w9.ownsRow 0 73 2 v9 (q+1) (mv o3++[.string key,.int .i64 x])->Kp (Value.slice A3 q c3).ownBlock.toList (wX.alloc (.cells #[.string key,.int .i64 x] 73)) w9->At (wX.heap.size+1) (Value.slice A3 q c3).ownBlock v9.ownBlock->
        ∃A9 c9,v9= .slice A9 (q+1) c9/\As (MgO wo (.slice A9 (q+1) c9) (q+1) (o3++[(key,x)]) w9)):=⟨fun key x wX v9 w9 kX o9 k9 a9=>by
        have h:=(HG.out.2.kp0 (kX.alloc _)).app (r:=[(key,x)]) rfl o9 k9 (by simpa using a9)
        obtain⟨A9,c9,rfl,_⟩:=own_rd h.own
        exact⟨A9,c9,rfl,⟨h⟩⟩⟩
       by_cases hgo:i<mm\/k<zz
       ·have hq9:q+1<=100000:=by
         have h1:=HG.out.1.len
         have h2:=HG.out.1.kz
         have h3:=HLQ.out
         omega
        by_cases hkz:k<zz
        ·have k1:(k:Int)<(zz:Int):=by omega
         have k2:¬(zz:Int)<=(k:Int):=by omega
         obtain⟨gL,kk,xk,rfl,hlk,d0,d1⟩:=HL.out.at k (by omega)
         have HLK:=As.mk hlk
         have k3:(0:Int)<=(k:Int):=by omega
         have k4:(k:Int)<(N:Int):=by omega
         have HKD:As (∀wX,Kp [] wr wX->wX.cell? ⟨gL,k*2,none⟩=some (.string kk)/\wX.cell? ⟨gL,k*2+1,none⟩=some (.int .i64 xk)):=⟨fun wX kX=>⟨kX.cell d0 (by simp),kX.cell d1 (by simp)⟩⟩
         by_cases him:i<mm
         ·have i3:(i:Int)<(mm:Int):=by omega
          obtain⟨_,ki,xi,e,hli,f0,f1⟩:=HL.out.at i (by omega)
          cases e
          have HLI:=As.mk hli
          have i4:(0:Int)<=(i:Int):=by omega
          have i5:(i:Int)<(N:Int):=by omega
          obtain⟨b,hb⟩:∃b,mLe (ki,xi) (kk,xk)=b:=⟨_,rfl⟩
          have HLS:As (∀wX,Kp [] wr wX->Calls Tryz.prog 140 #[.agg #[.string kk,.int .i64 xk],.agg #[.string ki,.int .i64 xi]] wX fun e w'=>e= .returned (.bool (!b))/\As (Kp [] wr w')):=⟨fun wX kX=>by
           have:=less_any (kk,xk) (ki,xi) wX
           rw[hb] at this
           exact this.mono (fun e w' h=>⟨h.1,⟨kX.trans h.2 (by simp)⟩⟩)⟩
          have KX:As (∀wX,Kp [] wr wX->wX.cell? ⟨gL,k*2,none⟩=some (.string kk)/\wX.cell? ⟨gL,k*2+1,none⟩=some (.int .i64 xk)/\wX.cell? ⟨gL,i*2,none⟩=some (.string ki)/\wX.cell? ⟨gL,i*2+1,none⟩=some (.int .i64 xi)):=⟨fun wX kX=>⟨kX.cell d0 (by simp),kX.cell d1 (by simp),kX.cell f0 (by simp),kX.cell f1 (by simp)⟩⟩
          have HB:=As.mk hb
          clear hgo hlk hli hb d0 d1 f0 f1 HL HKD
          cases b
          ·have HNX:As (Mrging l mm zz (out++mrg (cut l xx mm) (cut l mm zz)) i (k+1) (o3++[(kk,xk)])):=⟨by
            obtain⟨h1,e1⟩:=List.getElem?_eq_some_iff.1 HLK.out
            obtain⟨h2,e2⟩:=List.getElem?_eq_some_iff.1 HLI.out
            rw[<-e1]
            exact HG.out.1.right hkz (.inr ⟨h2,by rw[e1,e2];exact HB.out⟩)⟩
           clear HLI HLK HB
           go_upto_region 12 with fail
           go_region_held3 (fun wX=>wX.cell? ⟨gL,k*2,none⟩=some (.string kk)/\wX.cell? ⟨gL,k*2+1,none⟩=some (.int .i64 xk)/\wX.cell? ⟨gL,i*2,none⟩=some (.string ki)/\wX.cell? ⟨gL,i*2+1,none⟩=some (.int .i64 xi))
            (first|exact KX.out _ (Kp.refl [] wr)|exact KX.out _ (Kp.refl [] wr).drew|exact KX.out _ ((Kp.refl [] wr).drewN _)|exact KX.out _ HK8.out|exact KX.out _ (HK8.out.drewN _))
            (first|(go_at_call 140;refine(HLS.out _ (by first|exact Kp.refl [] _|exact(Kp.refl [] _).drew|exact(Kp.refl [] _).drewN _)).mono ?_;rintro e w8 ⟨rfl,HK8⟩))
           have h8:=KX.out _ HK8.out
           have d0:=h8.1
           have d1:=h8.2.1
           have HO8:=As.mk (HG.out.2.kp0 (HK8.out.alloc (.cells #[.string kk,.int .i64 xk] 73)))
           clear h8 KX HLS
           go_wp2_with (at_builtin;refine refr.appM rfl (.tmp 87) (.tmp 92) rfl (.slice A3 q c3) q (mv o3) rfl HO8.out.own w8.heap.size kk xk rfl (PlAt.new w8 _ _) (by omega) ?_;intro v9 w9 o9 k9 a9;obtain⟨A9,c9,rfl,HQ⟩:=HPUT.out kk xk _ v9 w9 HK8.out o9 k9 (by simpa using a9);clear o9 k9 a9)
           go_roundw
           case rel=>exact⟨i,k+1,q+1,c9,A9,_,rfl,by go_num,rfl,hi,by omega,⟨HNX.out,HQ.out⟩⟩
           case measure=>simp[intOf];omega
          ·have HNX:As (Mrging l mm zz (out++mrg (cut l xx mm) (cut l mm zz)) (i+1) k (o3++[(ki,xi)])):=⟨by
            obtain⟨h1,e1⟩:=List.getElem?_eq_some_iff.1 HLK.out
            obtain⟨h2,e2⟩:=List.getElem?_eq_some_iff.1 HLI.out
            rw[<-e2]
            exact HG.out.1.left him (.inr ⟨h1,by rw[e1,e2];exact HB.out⟩)⟩
           clear HLI HLK HB
           go_upto_region 12 with fail
           go_region_held3 (fun wX=>wX.cell? ⟨gL,k*2,none⟩=some (.string kk)/\wX.cell? ⟨gL,k*2+1,none⟩=some (.int .i64 xk)/\wX.cell? ⟨gL,i*2,none⟩=some (.string ki)/\wX.cell? ⟨gL,i*2+1,none⟩=some (.int .i64 xi))
            (first|exact KX.out _ (Kp.refl [] wr)|exact KX.out _ (Kp.refl [] wr).drew|exact KX.out _ ((Kp.refl [] wr).drewN _)|exact KX.out _ HK8.out|exact KX.out _ (HK8.out.drewN _))
            (first|(go_at_call 140;refine(HLS.out _ (by first|exact Kp.refl [] _|exact(Kp.refl [] _).drew|exact(Kp.refl [] _).drewN _)).mono ?_;rintro e w8 ⟨rfl,HK8⟩))
           have h8:=KX.out _ HK8.out
           have d0:=h8.2.2.1
           have d1:=h8.2.2.2
           have HO8:=As.mk (HG.out.2.kp0 (HK8.out.alloc (.cells #[.string ki,.int .i64 xi] 73)))
           clear h8 KX HLS
           go_wp2_with (at_builtin;refine refr.appM rfl (.tmp 78) (.tmp 83) rfl (.slice A3 q c3) q (mv o3) rfl HO8.out.own w8.heap.size ki xi rfl (PlAt.new w8 _ _) (by omega) ?_;intro v9 w9 o9 k9 a9;obtain⟨A9,c9,rfl,HQ⟩:=HPUT.out ki xi _ v9 w9 HK8.out o9 k9 (by simpa using a9);clear o9 k9 a9)
           go_roundw
           case rel=>exact⟨i+1,k,q+1,c9,A9,_,by go_num,rfl,rfl,by omega,hk,⟨HNX.out,HQ.out⟩⟩
           case measure=>simp[intOf];omega
         ·have i3:¬(i:Int)<(mm:Int):=by omega
          have HNX:As (Mrging l mm zz (out++mrg (cut l xx mm) (cut l mm zz)) i (k+1) (o3++[(kk,xk)])):=⟨by
           obtain⟨h1,e1⟩:=List.getElem?_eq_some_iff.1 HLK.out
           rw[<-e1]
           exact HG.out.1.right hkz (.inl (by omega))⟩
          clear HLK hlk hgo d0 d1 HL
          go_upto_region 12 with fail
          go_quiet (fail)
          have h8:=HKD.out _ ((Kp.refl [] wr).drewN nq)
          have d0:=h8.1
          have d1:=h8.2
          have HK8:As (Kp [] wr (wr.drewN nq)):=⟨(Kp.refl [] wr).drewN nq⟩
          obtain⟨w8,hw8⟩:∃w8,wr.drewN nq=w8:=⟨_,rfl⟩
          rw[hw8] at HK8 d0 d1⊢
          have HO8:=As.mk (HG.out.2.kp0 (HK8.out.alloc (.cells #[.string kk,.int .i64 xk] 73)))
          clear h8 HKD hw8
          go_wp2_with (at_builtin;refine refr.appM rfl (.tmp 87) (.tmp 92) rfl (.slice A3 q c3) q (mv o3) rfl HO8.out.own w8.heap.size kk xk rfl (PlAt.new w8 _ _) (by omega) ?_;intro v9 w9 o9 k9 a9;obtain⟨A9,c9,rfl,HQ⟩:=HPUT.out kk xk _ v9 w9 HK8.out o9 k9 (by simpa using a9);clear o9 k9 a9)
          go_roundw
          case rel=>exact⟨i,k+1,q+1,c9,A9,_,rfl,by go_num,rfl,hi,by omega,⟨HNX.out,HQ.out⟩⟩
          case measure=>simp[intOf];omega
        ·have him:i<mm:=by omega
         have k1:¬(k:Int)<(zz:Int):=by omega
         have k2:(zz:Int)<=(k:Int):=by omega
         have i3:(i:Int)<(mm:Int):=by omega
         obtain⟨gL,ki,xi,rfl,hli,d0,d1⟩:=HL.out.at i (by omega)
         have i4:(0:Int)<=(i:Int):=by omega
         have i5:(i:Int)<(N:Int):=by omega
         have HKD:As (∀wX,Kp [] wr wX->wX.cell? ⟨gL,i*2,none⟩=some (.string ki)/\wX.cell? ⟨gL,i*2+1,none⟩=some (.int .i64 xi)):=⟨fun wX kX=>⟨kX.cell d0 (by simp),kX.cell d1 (by simp)⟩⟩
         have HNX:As (Mrging l mm zz (out++mrg (cut l xx mm) (cut l mm zz)) (i+1) k (o3++[(ki,xi)])):=⟨by
          obtain⟨h1,e1⟩:=List.getElem?_eq_some_iff.1 hli
          rw[<-e1]
          exact HG.out.1.left him (.inl (by omega))⟩
         clear hli hgo d0 d1 HL
         go_upto_region 12 with fail
         go_quiet (fail)
         have h8:=HKD.out _ ((Kp.refl [] wr).drewN nq)
         have d0:=h8.1
         have d1:=h8.2
         have HK8:As (Kp [] wr (wr.drewN nq)):=⟨(Kp.refl [] wr).drewN nq⟩
         obtain⟨w8,hw8⟩:∃w8,wr.drewN nq=w8:=⟨_,rfl⟩
         rw[hw8] at HK8 d0 d1⊢
         have HO8:=As.mk (HG.out.2.kp0 (HK8.out.alloc (.cells #[.string ki,.int .i64 xi] 73)))
         clear h8 HKD hw8
         go_wp2_with (at_builtin;refine refr.appM rfl (.tmp 78) (.tmp 83) rfl (.slice A3 q c3) q (mv o3) rfl HO8.out.own w8.heap.size ki xi rfl (PlAt.new w8 _ _) (by omega) ?_;intro v9 w9 o9 k9 a9;obtain⟨A9,c9,rfl,HQ⟩:=HPUT.out ki xi _ v9 w9 HK8.out o9 k9 (by simpa using a9);clear o9 k9 a9)
         go_roundw
         case rel=>exact⟨i+1,k,q+1,c9,A9,_,by go_num,rfl,rfl,by omega,hk,⟨HNX.out,HQ.out⟩⟩
         case measure=>simp[intOf];omega
       ·have k1:¬(k:Int)<(zz:Int):=by omega
        have i3:¬(i:Int)<(mm:Int):=by omega
        have HFN:As (Passed wd l q o3/\q=min a3 N):=⟨by
         obtain⟨n1,n2,n3,n4,n5⟩:=HN1.out
         have hp:=HP.out.2.2.1
         rw[n5] at hp
         have hx:=HP.out.1
         have h1:=HG.out.1.done (by omega) (by omega)
         have h2:=HG.out.1.len
         have h3:=HLQ.out
         have h4:=Passed.next hp HI.out.1.parts (by omega) hx n1 n2
         rw[<-h1] at h4
         have e:zz=q:=by have:=HG.out.1.im;omega
         rw[e] at h4
         exact⟨h4,by rw[<-e];exact n4⟩⟩
        have hx9:a3<=400000:=by omega
        clear hgo HL HPUT
        go_wp2_with fail
        go_roundw
        case rel=>exact⟨t+1,a3,q,c3,A3,o3,rfl,rfl,hx9,⟨HN1.out.2.2.1,HFN.out.2,HFN.out.1,HG.out.2⟩⟩
        case measure=>simp[intOf];omega
    ·have i2:¬(xx:Int)<(N:Int):=by omega
     obtain rfl:p=N:=by have:=HP.out.2.1;omega
     have HFN:As (Pass (xs++ys) a2 out/\MgO w (.slice A7 p c7) p out wr):=⟨by
      have h1:=HP.out.2.2.1
      rw[<-HI.out.2.len] at h1
      have h2:=HI.out.1.next h1
      rw[ha2] at h2
      exact⟨h2,HP.out.2.2.2.low HI.out.2.kp⟩⟩
     have hx9:1<=a2/\a2<=200000/\wd<a2:=by omega
     clear ha2
     go_wp2_with fail
     go_roundw
     case rel=>exact⟨a2,c7,A7,out,rfl,rfl,hx9.1,hx9.2.1,HFN⟩
     case measure=>simp[intOf];omega
  ·have i1:¬(wd:Int)<(N:Int):=by omega
   have HFN:As (MgO w (.slice AA N cA) N (sortM (xs++ys)) wr):=⟨by
    rw[<-HI.out.1.done (by rw[HI.out.2.len];omega)]
    exact HI.out.2⟩
   go_wp2_with fail
   go_ret
   exact⟨_,rfl,HFN.out⟩
end Go.Proofs.YtdiljpdohmeceaaGreat.co.cr
