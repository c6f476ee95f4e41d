/- Words and walks that this claim rests on: proved lemmas alone. -/
import Derived.Test.YtdiljpdohmeceaaGreatZ51
set_option maxHeartbeats 16000000
set_option maxRecDepth 100000
namespace Go.Proofs.YtdiljpdohmeceaaGreat.co
open Go.RowKit H O opk frame wir
open cr (MgO)
def ubs(us:List Bool):List Value:=us.map Value.bool
theorem run_make_bool(w:World)(n:Nat)(hn:n<=1000000):∃w1,(Instr.makeSlice 75 (.int .i64 (n:Int)) (.int .i64 (n:Int))).run Tryz.prog w= .ok (.slice (some ⟨w.heap.size,0,none⟩) n n) w1/\w1.ownsRow 0 4 1 (.slice (some ⟨w.heap.size,0,none⟩) n n) n (ubs (List.replicate n false))/\Kp [] w w1:=by
 have info:(Tryz.prog.info? 4).map (fun i=>(i.zero,i.size,i.bytes))=some (some (.bool false),1,1):=by kernel_rfl
 obtain⟨ti,hti,hti2⟩:=Option.map_eq_some_iff.1 info
 obtain⟨q1,q2,q3⟩:ti.zero=some (.bool false)/\ti.size=1/\ti.bytes=1:=by simpa using hti2
 obtain⟨w1,h1,h2,h3⟩:=run_make_full (P:=Tryz.prog) w 0 75 4 ti (.bool false) 1 Tryz.underlying75 hti q1 q2 .i64 .i64 n (by rw[q3];omega) (by simp[maxLen];omega) (Nat.zero_le _)
 refine⟨w1,h1, ?_,(Kp.refl [] w).grown h3 (by simp)⟩
 have e:(madeCells (Value.bool false).cells (n*1)).toList=ubs (List.replicate n false):=by
  rw[Nat.mul_one]
  show(madeCells #[.bool false] n).toList=_
  rw[toList_madeCells_one,ubs,List.map_replicate]
 rw[<-e]
 exact h2
def LOk(x:ByteArray×Int):Prop:=(1<=x.1.size/\x.1.size<=64)/\0<=x.2/\x.2<=1099511627776
theorem LOk.mok{x:ByteArray×Int}(h:LOk x):MOk x:=⟨h.1,h.2.1,by have:=h.2.2;omega⟩
theorem mSize_app(a b:List (ByteArray×Int)):mSize (a++b)=mSize a+mSize b:=by simp[mSize]
theorem cfnd_law(w:World)(A:Option Addr)(n c:Nat)(a:List (ByteArray×Int))(B:Option Addr)(m d:Nat)(b:List (ByteArray×Int))(turn missing:Bool)(hn:a.length=n)(hr:Rd w A (mv a))(hnil:A=none->c=0)(hza:mSize a<=2097152)(hm:b.length=m)(hr2:Rd w B (mv b))(hnil2:B=none->d=0)(hzb:mSize b<=2097152):
 Calls Tryz.prog 5 #[.slice A n c,.slice B m d,.bool turn,.bool missing] w fun e w'=>e= .returned (.bool true)/\Below w.heap.size w w':=by
 have HKN:=As.mk (fun wX=>known_any wX)
 obtain⟨N,hN⟩:∃N,n+m=N:=⟨_,rfl⟩
 have k0:Kp [] w (w.alloc (.cells #[] 73)):=(Kp.refl [] w).alloc _
 have H0:As (MgO w (.slice (some ⟨w.heap.size,0,none⟩) 0 0) 0 [] (w.alloc (.cells #[] 73))):=⟨rfl,cr.own0 w,fun g e=>by cases e;exact Nat.le_refl _,k0⟩
 have HR1:=As.mk (k0.rd_new hr (by simp))
 have HX1:As (∀v2 w2,w2.ownsRow 0 73 2 v2 (0+n) ([]++mv a)->Kp (Value.slice (some ⟨w.heap.size,0,none⟩) 0 0).ownBlock.toList (w.alloc (.cells #[] 73)) w2->H.At (w.heap.size+1) (Value.slice (some ⟨w.heap.size,0,none⟩) 0 0).ownBlock v2.ownBlock->
  ∃A2 c2,v2= .slice A2 n c2/\As (MgO w (.slice A2 n c2) n a w2/\Rd w2 B (mv b))):=⟨fun v2 w2 o k at_=>by
  have h:=H0.out.app (r:=a) hn (by simpa [mv_nil] using o) k (by simpa using at_)
  rw[Nat.zero_add,List.nil_append] at h
  obtain⟨A2,c2,rfl,_⟩:=own_rd h.own
  exact⟨A2,c2,rfl,⟨h,h.kp.rd_new hr2 (by simp)⟩⟩⟩
 have HX2:As (∀A2 c2 w2,MgO w (.slice A2 n c2) n a w2->∀v3 w3,w3.ownsRow 0 73 2 v3 (n+m) (mv a++mv b)->Kp (Value.slice A2 n c2).ownBlock.toList w2 w3->H.At w2.heap.size (Value.slice A2 n c2).ownBlock v3.ownBlock->
  ∃A3 c3,v3= .slice A3 N c3/\As (MgO w (.slice A3 N c3) N (a++b) w3)):=⟨fun A2 c2 w2 h v3 w3 o k at_=>by
  have h:=h.app (r:=b) hm o k at_
  rw[hN] at h
  obtain⟨A2,c2,rfl,_⟩:=own_rd h.own
  exact⟨A2,c2,rfl,⟨h⟩⟩⟩
 have HLN:=As.mk (show(mv a).length=n*2/\(mv b).length=m*2 by rw[mv_len,mv_len,hn,hm];exact⟨rfl,rfl⟩)
 have HNL:=As.mk (And.intro hnil hnil2)
 have hla:=mSize_len a
 have hlb:=mSize_len b
 have hn9:n<=500000/\m<=500000:=by omega
 have HNM:As (n+m<=1000000):=⟨by omega⟩
 have hN9:N<=1000000:=by omega
 have HS9:As (mSize (a++b)<=4194304):=⟨by rw[mSize_app];omega⟩
 have HRA:=As.mk (And.intro hr hr2)
 have HNA:=As.mk (And.intro hn hm)
 clear hn hm hr hr2 hnil hnil2 hN k0 hla hlb hza hzb
 go_enter Tryz.func5,Tryz.ntmps5
 go_upto_region 3 with(first
  |(at_builtin;refine wpList_app rfl (.tmp 23) (.tmp 24) 59 rfl 73 (.agg #[.string ⟨#[]⟩,.int .i64 0]) 2 24 Tryz.underlying59 so.info_match (by kernel_rfl) (by decide) (.slice (some ⟨w.heap.size,0,none⟩) 0 0) 0 [] rfl H0.out.own A n c (mv a) rfl HLN.out.1 HR1.out HNL.out.1 (mv_one a) (by omega) (by omega) ?_;intro v2 w2 o2 k2 a2 _;obtain⟨A2,c2,rfl,HM2⟩:=HX1.out v2 w2 o2 k2 (by simpa using a2);clear o2 k2 a2)
  |(at_builtin;refine wpList_app rfl (.tmp 25) (.tmp 26) 59 rfl 73 (.agg #[.string ⟨#[]⟩,.int .i64 0]) 2 24 Tryz.underlying59 so.info_match (by kernel_rfl) (by decide) (.slice A2 n c2) n (mv a) rfl HM2.out.1.own B m d (mv b) rfl HLN.out.2 HM2.out.2 HNL.out.2 (mv_one b) (by omega) (by have:=HNM.out;omega) ?_;intro v3 w3 o3 k3 a3 _;obtain⟨A3,c3,rfl,HM3⟩:=HX2.out _ _ _ HM2.out.1 v3 w3 o3 k3 a3;clear o3 k3 a3)
  |fail)
 have HLL:As ((a++b).length=N):=⟨HM3.out.len⟩
 have HRL:As (Rd w3 A3 (mv (a++b))):=⟨by
  obtain⟨A4,c4,e,_,_,h,_⟩:=own_rd HM3.out.own
  cases e
  exact h⟩
 have HK3:As (Kp [] w w3):=⟨HM3.out.kp⟩
 clear H0 HR1 HX1 HX2 HLN HNL HNM HM2 HM3 hn9
 obtain⟨l,hl⟩:∃l,a++b=l:=⟨_,rfl⟩
 rw[hl] at HLL HRL HS9
 have HLE:=As.mk hl
 clear hl
 go_wp2_with fail
 go_loopw [9,11] (fun v9 v11 wr=>∃(t k:Nat),v9= .int .i64 (t:Int)/\v11= .int .i64 (k:Int)/\k<=N/\t<=6000/\As (t=mSize (l.take k)/\(∀x∈l.take k,LOk x))/\As (Kp [] w3 wr)) (fun _ i _=>N-(intOf i).toNat)
 case atStart=>exact⟨0,0,rfl,rfl,by omega,by omega,⟨by simp[mSize],by simp⟩,⟨Kp.refl _ _⟩⟩
 case round=>
  obtain⟨t,k,rfl,rfl,hk,ht,HT,HK⟩:=hrel
  by_cases hlt:k<N
  ·
   have i1:(k:Int)<(N:Int):=by omega
   have i0:(0:Int)<=(k:Int):=by omega
   have hlt':k<l.length:=by rw[HLL.out];exact hlt
   obtain⟨b0,o0,rfl,d0,d1⟩:=mv_at (HK.out.rd_new HRL.out (by simp)) k hlt'
   have hstep:=mSize_step l k hlt'
   have htk:=take_succ' l k hlt'
   have hsz:=mSize_get hlt'
   obtain⟨x,hx⟩:∃x,l[k]=x:=⟨_,rfl⟩
   rw[hx] at d0 d1 hstep htk hsz
   obtain⟨key,at_⟩:=x
   obtain⟨nk,hnk⟩:∃q,key.size=q:=⟨_,rfl⟩
   have hstep:mSize (l.take (k+1))=mSize (l.take k)+5+nk:=by rw[<-hnk];exact hstep
   have hsz:nk<=mSize l:=by rw[<-hnk];exact hsz
   have hnk9:nk<=4194304:=by have:=HS9.out;omega
   obtain⟨t1,ht1⟩:∃t1,t1=t+5+nk:=⟨_,rfl⟩
   have j1:(t:Int)+5+(nk:Int)=(t1:Int):=by omega
   have ht19:t1<=5000000:=by omega
   have HX:As (((1<=nk/\nk<=64)/\0<=at_/\at_<=1099511627776)->t1=mSize (l.take (k+1))/\∀y∈l.take (k+1),LOk y):=⟨fun h=>by
    refine⟨by rw[hstep,<-HT.out.1,ht1],fun y hy=> ?_⟩
    rw[htk] at hy
    rcases List.mem_append.1 hy with e|e
    ·exact HT.out.2 y e
    ·rw[List.mem_singleton.1 e]
     exact⟨by show 1<=key.size/\key.size<=64;rw[hnk];exact h.1,h.2⟩⟩
   clear hstep htk hsz hx hlt' ht1
   have d0:wr.cell? ⟨b0,o0+k*2,none⟩=some (.string key):=d0
   have d1:wr.cell? ⟨b0,o0+k*2+1,none⟩=some (.int .i64 at_):=d1
   by_cases g1:(6000:Int)<(t1:Int)
   ·go_wp2_with (first|(go_at_call 7;refine(HKN.out _).mono ?_;rintro e w4 ⟨rfl,k4⟩;have HK4:=As.mk k4;clear k4)|fail)
    go_ret
    exact⟨rfl,((HK3.out.trans HK.out (by simp)).trans HK4.out (by simp)).below⟩
   by_cases g2:(nk:Int)<1
   ·go_wp2_with (first|(go_at_call 7;refine(HKN.out _).mono ?_;rintro e w4 ⟨rfl,k4⟩;have HK4:=As.mk k4;clear k4)|fail)
    go_ret
    exact⟨rfl,((HK3.out.trans HK.out (by simp)).trans HK4.out (by simp)).below⟩
   by_cases g3:(64:Int)<(nk:Int)
   ·go_wp2_with (first|(go_at_call 7;refine(HKN.out _).mono ?_;rintro e w4 ⟨rfl,k4⟩;have HK4:=As.mk k4;clear k4)|fail)
    go_ret
    exact⟨rfl,((HK3.out.trans HK.out (by simp)).trans HK4.out (by simp)).below⟩
   by_cases g4:at_<0
   ·go_wp2_with (first|(go_at_call 7;refine(HKN.out _).mono ?_;rintro e w4 ⟨rfl,k4⟩;have HK4:=As.mk k4;clear k4)|fail)
    go_ret
    exact⟨rfl,((HK3.out.trans HK.out (by simp)).trans HK4.out (by simp)).below⟩
   by_cases g5:1099511627776<at_
   ·go_wp2_with (first|(go_at_call 7;refine(HKN.out _).mono ?_;rintro e w4 ⟨rfl,k4⟩;have HK4:=As.mk k4;clear k4)|fail)
    go_ret
    exact⟨rfl,((HK3.out.trans HK.out (by simp)).trans HK4.out (by simp)).below⟩
   have HXX:=As.mk (HX.out (by omega))
   clear HX
   go_wp2_with fail
   go_roundw
   case rel=>exact⟨t1,k+1,by go_num,by go_num,by omega,by omega,HXX,by first|exact HK|exact⟨HK.out.drewN _⟩⟩
   case measure=>simp[intOf];omega
  ·obtain rfl:k=N:=by omega
   have i1:¬(k:Int)<(k:Int):=by omega
   have HOK:As (mSize l<=6000/\∀x∈l,LOk x):=⟨by
    have htk:l.take k=l:=List.take_of_length_le (by rw[HLL.out];exact Nat.le_refl _)
    have h:=HT.out
    rw[htk] at h
    exact⟨by omega,h.2⟩⟩
   have HK5:As (Kp [] w wr):=⟨HK3.out.trans HK.out (by simp)⟩
   have HRL5:As (Rd wr A3 (mv l)):=⟨HK.out.rd_new HRL.out (by simp)⟩
   obtain⟨w5,rfl⟩:∃w5,w5=wr:=⟨_,rfl⟩
   have HRA5:As (Rd w5 A (mv a)/\Rd w5 B (mv b)):=⟨HK5.out.rd_new HRA.out.1 (by simp),HK5.out.rd_new HRA.out.2 (by simp)⟩
   have HSG:=As.mk (start_good 9 50 3 w5 (by decide) (by decide) (by decide))
   clear HT HK HK3 HRL HRA HS9 hlt ht
   have kc:=fun(w:World) (C:Array Value) (n c:Nat)=>Lib.run_convert_bytes_const (P:=Tryz.prog) w 24 5 C n c Tryz.underlying24 Tryz.underlying5
   go_upto_region 14 with(first
    |(go_at_call 8;refine HSG.out.mono ?_;rintro e w6 ⟨P,L,M,rfl,HP,HLO⟩;have HI0:=As.mk (CfI.start HP.out HLO.out);have p0:=HI0.out.cells.1;have HFD:=As.mk (fun key MV b hb=>HI0.out.find key MV b hb);clear HSG HP HLO)
    |(go_at_call 20;refine(HFD.out _ _ _ (by simp)).mono ?_;rintro e w7 ⟨rfl,Lb1,Mb1,A1,c1,p0,p1,p2,HI1,-⟩;clear HFD;have HTK:=As.mk (fun key BV MV=>HI1.out.tick (wX:=w7) (Kp.refl _ _) key BV MV))
    |(go_at_call 20;refine(HTK.out _ _ _).mono ?_;rintro e w8 ⟨rfl,Lb2,Mb2,A22,c22,p0,p1,p2,HI2,-⟩;have p2:w8.cell? ⟨P,2,none⟩=some (.slice A22 2 c22):=p2;clear HTK)
    |fail)
   go_upto_region 15 with fail
   obtain⟨w9,hw9⟩:∃w9,w8.alloc (.cells #[.slice A n c,.slice B m d] 59)=w9:=⟨_,rfl⟩
   obtain⟨gt,hgt⟩:∃g,w8.heap.size=g:=⟨_,rfl⟩
   rw[hw9,hgt]
   have hb9:w9.heap[gt]?=some (.cells #[.slice A n c,.slice B m d] 59 (0,0)):=by rw[<-hw9,<-hgt];exact heap_alloc_new w8 _
   have k89:Kp [] w8 w9:=by rw[<-hw9];exact(Kp.refl [] w8).alloc _
   have HI3:As (CfI w5 [gt] P Lb2 Mb2 (cSt a b turn 0) [cM 0,cM 1] w9):=⟨HI2.out.own k89 ⟨by omega,lt_of_block hb9⟩⟩
   have q0:=HI3.out.cells.1
   have HTD:As (∀k,k<=1->∃Ak nk ck,w9.cell? ⟨gt,k,none⟩=some (.slice Ak nk ck)/\As ((toldOf a b k).length=nk/\Rd w5 Ak (mv (toldOf a b k))/\(∀x∈toldOf a b k,MOk x)/\mSize (toldOf a b k)<=6000)):=⟨fun k hk=>by
    have hz:=HOK.out.1
    have ho:=HOK.out.2
    rw[<-HLE.out,mSize_app] at hz
    rw[<-HLE.out] at ho
    rcases (by omega:k=0\/k=1) with rfl|rfl
    ·exact⟨A,n,c,bkc hb9 0 rfl,⟨HNA.out.1,HRA5.out.1,fun x hx=>(ho x (List.mem_append.2 (.inl hx))).mok,by show mSize a<=_;omega⟩⟩
    ·exact⟨B,m,d,bkc hb9 1 rfl,⟨HNA.out.2,HRA5.out.2,fun x hx=>(ho x (List.mem_append.2 (.inr hx))).mok,by show mSize b<=_;omega⟩⟩⟩
   clear hw9 hgt hb9 k89 p0 p1 p2 HI2 kc HNA HRA5 HI0 HI1
   go_wp2_with fail
   go_loopw [15] (fun v wr=>∃(i Lb Mb:Nat),v= .int .i64 (i:Int)/\i<=2/\wr.cell? ⟨P,0,none⟩=some (.pointer (some ⟨Lb,0,none⟩))/\As (CfI w5 [gt] P Lb Mb (cSt a b turn i) [cM 0,cM 1] wr/\(∀(ad:Addr) u,ad.block=gt->w9.cell? ad=some u->wr.cell? ad=some u))) (fun v _=>2-(intOf v).toNat)
   case atStart=>exact⟨0,_,_,rfl,by omega,q0,⟨HI3.out,fun _ _ _ h=>h⟩⟩
   case round=>
    clear q0 HI3
    obtain⟨i,Lb,Mb,rfl,hi,q0,HI⟩:=hrel
    by_cases hlt:i<2
    ·have i1:(i:Int)<2:=by omega
     have i0:(0:Int)<=(i:Int):=by omega
     have hk1:kOf turn i<=1:=by unfold kOf;split<;>omega
     obtain⟨Ak,nk,ck,tk,HTk⟩:=HTD.out (kOf turn i) hk1
     have tk:=HI.out.2 _ _ rfl tk
     have HRP:=As.mk (fun key BV=>HI.out.1.reply (wX:=wr) (Kp.refl _ _) (by omega) key BV Ak ck nk HTk.out.1 HTk.out.2.1 HTk.out.2.2.1 (by have:=HTk.out.2.2.2;omega))
     by_cases hx:missing=true/\i=1
     ·
      obtain⟨rfl,rfl⟩:=hx
      have HDN:=As.mk (CfI.not (k:=kOf turn 0) (l:=toldOf a b (kOf turn 0)) HI.out.1 (wX:=wr) (Kp.refl _ _))
      clear HRP HTk HTD tk hk1
      cases turn
      all_goals
       go_wp2_with (first
        |(go_at_call 18;refine HDN.out.mono ?_;rintro e w10 ⟨A5,c5,rfl,q0,HK10,HL10⟩;have HLT:=As.mk (HL10.out w10 (Kp.refl _ _));clear HDN HL10)
        |(go_at_call 10;refine HLT.out.mono ?_;rintro e w11 ⟨rfl,rfl⟩)
        |(go_at_call 7;refine(HKN.out _).mono ?_;rintro e w12 ⟨rfl,k12⟩;have HK12:=As.mk k12;clear k12)
        |fail)
       go_ret
       exact⟨rfl,((HK5.out.trans HK10.out (by simp)).trans HK12.out (by simp)).below⟩
     ·
      obtain⟨k,hk⟩:∃k,kOf turn i=k:=⟨_,rfl⟩
      rw[hk] at tk hk1 HRP
      have j0:(0:Int)<=(k:Int):=by omega
      have j1:(k:Int)<2:=by omega
      have HIO:=As.mk HI.out.2
      have hi3:i+1<=2:=by omega
      have HND:As (∀w10:World,(∀g∈[gt],∀(ad:Addr) u,ad.block=g->wr.cell? ad=some u->w10.cell? ad=some u)->∀(ad:Addr) u,ad.block=gt->w9.cell? ad=some u->w10.cell? ad=some u):=⟨fun w10 h ad u e hu=>h gt (by simp) ad u e (HIO.out ad u e hu)⟩
      clear HTk HTD HIO
      cases turn
      ·have hik:k=i:=hk.symm
       subst hik
       clear hk
       cases missing
       ·go_wp2_with (first
         |(go_at_call 20;refine(HRP.out _ _).mono ?_;rintro e w10 ⟨rfl,Lb3,Mb3,A10,c10,q0,-,-,HI10,HN10⟩;clear HRP)
         |fail)
        go_roundw
        case rel=>exact⟨k+1,Lb3,Mb3,by go_num,hi3,q0,⟨HI10.out,HND.out _ HN10.out⟩⟩
        case measure=>simp[intOf];omega
       ·have hx1:¬(k:Int)=1:=by
         intro e
         exact hx ⟨rfl,by omega⟩
        have hx1b:((k:Int)==1)=false:=by simpa using hx1
        clear hx
        go_wp2_with (first
         |(go_at_call 20;refine(HRP.out _ _).mono ?_;rintro e w10 ⟨rfl,Lb3,Mb3,A10,c10,q0,-,-,HI10,HN10⟩;clear HRP)
         |fail)
        go_roundw
        case rel=>exact⟨k+1,Lb3,Mb3,by go_num,hi3,q0,⟨HI10.out,HND.out _ HN10.out⟩⟩
        case measure=>simp[intOf];omega
      ·have hik:(1:Int)-(i:Int)=(k:Int):=by
        have:1-i=k:=hk
        omega
       clear hk
       cases missing
       ·go_wp2_with (first
         |(go_at_call 20;refine(HRP.out _ _).mono ?_;rintro e w10 ⟨rfl,Lb3,Mb3,A10,c10,q0,-,-,HI10,HN10⟩;clear HRP)
         |fail)
        go_roundw
        case rel=>exact⟨i+1,Lb3,Mb3,by go_num,hi3,q0,⟨HI10.out,HND.out _ HN10.out⟩⟩
        case measure=>simp[intOf];omega
       ·have hx1:¬(i:Int)=1:=by
         intro e
         exact hx ⟨rfl,by omega⟩
        have hx1b:((i:Int)==1)=false:=by simpa using hx1
        clear hx
        go_wp2_with (first
         |(go_at_call 20;refine(HRP.out _ _).mono ?_;rintro e w10 ⟨rfl,Lb3,Mb3,A10,c10,q0,-,-,HI10,HN10⟩;clear HRP)
         |fail)
        go_roundw
        case rel=>exact⟨i+1,Lb3,Mb3,by go_num,hi3,q0,⟨HI10.out,HND.out _ HN10.out⟩⟩
        case measure=>simp[intOf];omega
    ·obtain rfl:i=2:=by omega
     have i1:¬((2:Nat):Int)<2:=by omega
     have HDN:=As.mk (CfI.done (a:=a) (b:=b) (N:=k) (U:=[gt]) (ms:=[cM 0,cM 1]) HI.out.1 (wX:=wr) (Kp.refl _ _) (by rw[sortM_len,HLE.out,HLL.out]))
     rw[HLE.out] at HDN
     have nb:((k:Int) !=(k:Int))=false:=by simp
     clear HI HTD
     go_upto_region 29 with(first
      |(go_at_call 18;refine HDN.out.mono ?_;rintro e w10 ⟨g10,c10,B10,d10,rfl,x1,x5,HW10⟩;clear HDN)
      |fail)
     obtain⟨w11,hmk,ho11,hk11⟩:=run_make_bool w10 k (by omega)
     obtain⟨gu,hgu⟩:∃g,w10.heap.size=g:=⟨_,rfl⟩
     obtain⟨mm,hmm⟩:∃mm,sortM l=mm:=⟨_,rfl⟩
     rw[hgu] at ho11 hmk
     have HW:=HW10.out
     rw[hmm] at HW
     have HW11:=As.mk HW
     have HMM:As (mm.Perm l/\mSd mm/\mm.length=k):=⟨by rw[<-hmm];exact⟨sortM_self l,sortM_sd l,by rw[sortM_len,HLL.out]⟩⟩
     have HF0:As (FndI l mm (List.replicate l.length false) 0/\w11.ownsRow 0 4 1 (.slice (some ⟨gu,0,none⟩) k k) k (ubs (List.replicate l.length false))/\Kp [] w10 w11):=⟨FndI.zero HMM.out.1,by rw[HLL.out];exact ho11,hk11⟩
     have HRL10:As (Rd w10 A3 (mv l)/\Kp [] w w10):=⟨HW.1.rd_new HRL5.out (by simp),HK5.out.trans HW.1 (by simp)⟩
     have HGU:=As.mk hgu
     clear ho11 hk11 hmm HW HW10 HRL5 HOK
     go_wp2_with fail
     clear hmk x1 x5 q0 nb
     go_loopw [20] (fun v wr=>∃(i:Nat) (us:List Bool),v= .int .i64 (i:Int)/\i<=k/\As (FndI l mm us i/\wr.ownsRow 0 4 1 (.slice (some ⟨gu,0,none⟩) k k) k (ubs us)/\Kp [] w10 wr)) (fun v _=>k-(intOf v).toNat)
     case atStart=>exact⟨0,_,rfl,by omega,HF0⟩
     case round=>
      clear HF0
      obtain⟨i,us,rfl,hi,HF⟩:=hrel
      by_cases hlt:i<k
      ·have i1:(i:Int)<(k:Int):=by omega
       have i0:(0:Int)<=(i:Int):=by omega
       obtain⟨wo,rfl⟩:∃wo,wo=wr:=⟨_,rfl⟩
       have hlm:i<mm.length:=by rw[HMM.out.2.2];exact hlt
       have HRM:As (Rd wo B10 (mv mm)/\Rd wo A3 (mv l)):=⟨HF.out.2.2.rd_new HW11.out.2 (by simp),HF.out.2.2.rd_new HRL10.out.1 (by simp)⟩
       obtain⟨bm,om,hB10,d0,d1⟩:=mv_at HRM.out.1 i hlm
       subst hB10
       obtain⟨x,hx⟩:∃x,mm[i]=x:=⟨_,rfl⟩
       rw[hx] at d0 d1
       obtain⟨ky,ay⟩:=x
       have d0:wo.cell? ⟨bm,om+i*2,none⟩=some (.string ky):=d0
       have d1:wo.cell? ⟨bm,om+i*2+1,none⟩=some (.int .i64 ay):=d1
       have HXI:As (mm[i]?=some (ky,ay)):=⟨by rw[List.getElem?_eq_getElem hlm,hx]⟩
       have HDX:As (wo.cell? ⟨bm,om+i*2,none⟩=some (.string ky)/\wo.cell? ⟨bm,om+i*2+1,none⟩=some (.int .i64 ay)):=⟨d0,d1⟩
       obtain⟨us0,hus0⟩:∃u,us=u:=⟨_,rfl⟩
       rw[hus0] at HF
       clear hus0
       go_upto_region 33 with fail
       go_cut [237] from 194 to 237 (fun v237 wx=>v237= .bool false/\∃q,wx=wo.drewN q)
       case first=>
        by_cases hi0:i=0
        ·subst hi0
         go_quiet (fail)
         go_wp2_with fail
         go_meet
         exact⟨rfl,_,rfl⟩
        ·obtain⟨p,hp⟩:∃p,i=p+1:=⟨i-1,by omega⟩
         have g0:(0:Int)<(i:Int):=by omega
         have g0n:0<i:=by omega
         have g1:(i:Int)-1=(p:Int):=by omega
         have g1w:IntKind.i64.wrap (p:Int)=(p:Int):=by rw[IntKind.wrap_i64];omega
         have g2:(0:Int)<=(p:Int):=by omega
         have g3:(p:Int)<(k:Int):=by omega
         have g3n:p<k:=by omega
         obtain⟨bq,oq,hB,e0,e1⟩:=mv_at HRM.out.1 p (by omega)
         cases hB
         have hle:mLe mm[p] mm[i]=true:=List.pairwise_iff_getElem.1 HMM.out.2.1 p i (by omega) hlm (by omega)
         obtain⟨z,hz⟩:∃z,mm[p]=z:=⟨_,rfl⟩
         rw[hz] at e0 e1
         rw[hx,hz] at hle
         obtain⟨kz,az⟩:=z
         have e0:wo.cell? ⟨bm,om+p*2,none⟩=some (.string kz):=e0
         have e1:wo.cell? ⟨bm,om+p*2+1,none⟩=some (.int .i64 az):=e1
         have hle:(decide (kb kz<kb ky)||(decide (kb kz=kb ky)&&decide (az<=ay)))=true:=hle
         have hl:=cr.less_lt ky kz
         clear hz hx hp hi0 hlm
         rcases so.lex_tri (kb kz) (kb ky) with h|h|h
         ·have hne:¬ky.toList=kz.toList:=fun e=>by
           have:=haystacklaw13.str_eq e
           subst this
           exact so.lex_irr _ h
          rw[decide_eq_false (fun e=>so.lex_irr _ (so.lex_tr h e))] at hl
          clear hle h
          go_quiet (fail)
          go_wp2_with fail
          go_meet
          exact⟨rfl,_,rfl⟩
         ·obtain rfl:=kb_inj h
          have hna:¬ay<az:=by
           rw[decide_eq_false (so.lex_irr _),decide_eq_true rfl] at hle
           simp at hle
           omega
          rw[decide_eq_false (so.lex_irr _)] at hl
          clear hle h
          go_quiet (fail)
          go_wp2_with fail
          go_meet
          exact⟨rfl,_,rfl⟩
         ·exfalso
          rw[decide_eq_false (fun e=>so.lex_irr _ (so.lex_tr h e)),decide_eq_false (fun e=>by rw[e] at h;exact so.lex_irr _ h)] at hle
          simp at hle
       case rest=>
        obtain⟨rfl,q,hq⟩:=hcut
        obtain⟨wp,hwp⟩:∃wp,wo.drewN q=wp:=⟨_,rfl⟩
        have kp':Kp [] wo wp:=by rw[<-hwp];exact(Kp.refl [] wo).drewN q
        have ewp:wc=wp:=by rw[hq,hwp]
        subst ewp
        clear hq hwp
        have HF1:As (FndI l mm us0 i/\wc.ownsRow 0 4 1 (.slice (some ⟨gu,0,none⟩) k k) k (ubs us0)/\Kp [] w10 wc):=⟨HF.out.1,kp'.own HF.out.2.1 (by simp),HF.out.2.2.trans kp' (by simp)⟩
        clear d0 d1 HDX HF kp' HRM
        go_wp2_with fail
        go_loopw [21,22] (fun v21 v22 w2=>∃(f:Bool) (j:Nat) (us2:List Bool),v21= .bool f/\v22= .int .i64 (j:Int)/\j<=k/\As ((f=false->FndI l mm us2 i/\∀q (hq:q<l.length),q<j->us2[q]?=some false->l[q]≠(ky,ay))/\(f=true->FndI l mm us2 (i+1))/\us2.length=k/\w2.ownsRow 0 4 1 (.slice (some ⟨gu,0,none⟩) k k) k (ubs us2)/\Kp [] w10 w2)) (fun _ v _=>k-(intOf v).toNat)
        case atStart=>exact⟨false,0,us0,rfl,rfl,by omega,⟨fun _=>⟨HF1.out.1,fun q _ h=>absurd h (by omega)⟩,(fun e=>absurd e (by simp)),(by rw[HF1.out.1.len,HLL.out]),HF1.out.2.1,HF1.out.2.2⟩⟩
        case round=>
         clear HF1
         obtain⟨f,j,us2,rfl,rfl,hj,HG⟩:=hrel
         cases f with
         |true=>
          have HN2:=As.mk (HG.out.2.1 rfl)
          by_cases hjk:j<k
          ·have j1:(j:Int)<(k:Int):=by omega
           go_wp2_with fail
           go_roundw
           case rel=>exact⟨i+1,us2,by go_num,by omega,⟨HN2.out,HG.out.2.2.2⟩⟩
           case measure=>simp[intOf];omega
          ·have j1:¬(j:Int)<(k:Int):=by omega
           go_wp2_with fail
           go_roundw
           case rel=>exact⟨i+1,us2,by go_num,by omega,⟨HN2.out,HG.out.2.2.2⟩⟩
           case measure=>simp[intOf];omega
         |false=>
          have hjk:j<k:=by
           apply Nat.lt_of_not_le
           intro hge
           have hg:=HG.out.1 rfl
           have hxi:=HXI.out
           rw[List.getElem?_eq_getElem hlm] at hxi
           refine FndI.some hg.1 hlm (fun q hq hu=> ?_)
           rw[Option.some.inj hxi]
           exact hg.2 q hq (by have:=HLL.out;omega) hu
          have j1:(j:Int)<(k:Int):=by omega
          have j0:(0:Int)<=(j:Int):=by omega
          obtain⟨hg1,hg2⟩:=HG.out.1 rfl
          obtain⟨-,-,hul,how,hkp⟩:=HG.out
          have hju:j<us2.length:=by omega
          have hjl:j<l.length:=by rw[HLL.out];exact hjk
          obtain⟨u,hu⟩:∃u,us2[j]=u:=⟨_,rfl⟩
          have hu2:us2[j]?=some u:=by rw[List.getElem?_eq_getElem hju,hu]
          have c0:wr.cell? ⟨gu,j,none⟩=some (.bool u):=by
           obtain⟨A9,c9,e9,_,_,rr,_⟩:=own_rd how
           cases e9
           obtain⟨a9,e9,c9⟩:=rr j (.bool u) (by rw[ubs,List.getElem?_map,hu2];rfl)
           cases e9
           rw[Go.WideShapes.add_plain,Nat.zero_add] at c9
           exact c9
          have cf:=how.frozenAt j
          obtain⟨bl,ol,hA3,f0,f1⟩:=mv_at (hkp.rd_new HRL10.out.1 (by simp)) j hjl
          cases hA3
          obtain⟨bm',om',hBm,d0,d1⟩:=mv_at (hkp.rd_new HW11.out.2 (by simp)) i hlm
          cases hBm
          have hxi:mm[i]=(ky,ay):=by
           have:=HXI.out
           rw[List.getElem?_eq_getElem hlm] at this
           exact Option.some.inj this
          rw[hxi] at d0 d1
          have d0:wr.cell? ⟨bm,om+i*2,none⟩=some (.string ky):=d0
          have d1:wr.cell? ⟨bm,om+i*2+1,none⟩=some (.int .i64 ay):=d1
          obtain⟨y,hy⟩:∃y,l[j]=y:=⟨_,rfl⟩
          rw[hy] at f0 f1
          obtain⟨kl,al⟩:=y
          have f0:wr.cell? ⟨bl,ol+j*2,none⟩=some (.string kl):=f0
          have f1:wr.cell? ⟨bl,ol+j*2+1,none⟩=some (.int .i64 al):=f1
          have HNO:As ((u=true\/(kl,al)≠(ky,ay))->∀q (hq:q<l.length),q<j+1->us2[q]?=some false->l[q]≠(ky,ay)):=⟨fun ho q hq hqj hqu=>by
           rcases (by omega:q<j\/q=j) with e|rfl
           ·exact hg2 q hq e hqu
           ·rw[hu2] at hqu
            rw[hy]
            rcases ho with e|e
            ·rw[e] at hqu;cases hqu
            ·exact e⟩
          have HYE:As (u=false->(kl,al)=(ky,ay)->FndI l mm (us2.set j true) (i+1)/\(us2.set j true).length=k):=⟨fun e1 e2=>⟨hg1.next hlm hjl (by rw[hu2,e1]) (by rw[hy,hxi,e2]),by rw[List.length_set];exact hul⟩⟩
          have HST:As (∀w',Kp [] wr w'->(w'.setCell ⟨gu,j,none⟩ (.bool true)).ownsRow 0 4 1 (.slice (some ⟨gu,0,none⟩) k k) k (ubs (us2.set j true))/\Kp [] w10 (w'.setCell ⟨gu,j,none⟩ (.bool true))):=⟨fun w' kw=>by
           have ho:=kw.own how (by simp)
           have hs:=(own_store ho j hjk (.bool true)).2.2
           rw[show(ubs us2).set j (.bool true)=ubs (us2.set j true) by rw[ubs,ubs,List.map_set]] at hs
           exact⟨hs,(hkp.trans kw (by simp)).setCell (.inr (by have:=HGU.out;show w10.heap.size<=gu;omega)) _⟩⟩
          have HGG:As (FndI l mm us2 i/\us2.length=k/\wr.ownsRow 0 4 1 (.slice (some ⟨gu,0,none⟩) k k) k (ubs us2)/\Kp [] w10 wr):=⟨hg1,hul,how,hkp⟩
          have KC:As (∀nq,(wr.drewN nq).cell? ⟨gu,j,none⟩=some (.bool u)/\(wr.drewN nq).frozen? ⟨gu,j,none⟩=false):=⟨fun nq=>⟨c0,cf⟩⟩
          clear hg1 hg2 hul how hkp hju hjl hu hu2 hxi hy HG
          go_upto_region 39 with fail
          cases u with
          |true=>
           go_quiet (fail)
           go_wp2_with fail
           go_roundw
           case rel=>exact⟨false,j+1,us2,rfl,by go_num,by omega,⟨fun _=>⟨HGG.out.1,HNO.out (.inl rfl)⟩,(fun e=>absurd e (by simp)),HGG.out.2.1,((Kp.refl [] wr).drewN _).own HGG.out.2.2.1 (by simp),HGG.out.2.2.2.drewN _⟩⟩
           case measure=>simp[intOf];omega
          |false=>
           by_cases hk2:kl=ky
           ·subst hk2
            by_cases ha2:al=ay
            ·subst ha2
             go_quiet (fail)
             go_wp2_with fail
             go_roundw
             case rel=>exact⟨true,j+1,us2.set j true,rfl,by go_num,by omega,⟨(fun e=>absurd e (by simp)),(fun _=>(HYE.out rfl rfl).1),(HYE.out rfl rfl).2,HST.out _ ((Kp.refl [] wr).drewN _)⟩⟩
             case measure=>simp[intOf];omega
            ·go_quiet (fail)
             go_wp2_with fail
             go_roundw
             case rel=>exact⟨false,j+1,us2,rfl,by go_num,by omega,⟨fun _=>⟨HGG.out.1,HNO.out (.inr (fun e=>ha2 (Prod.mk.inj e).2))⟩,(fun e=>absurd e (by simp)),HGG.out.2.1,((Kp.refl [] wr).drewN _).own HGG.out.2.2.1 (by simp),HGG.out.2.2.2.drewN _⟩⟩
             case measure=>simp[intOf];omega
           ·have hk3:¬kl.toList=ky.toList:=fun e=>hk2 (haystacklaw13.str_eq e)
            go_quiet (fail)
            go_wp2_with fail
            go_roundw
            case rel=>exact⟨false,j+1,us2,rfl,by go_num,by omega,⟨fun _=>⟨HGG.out.1,HNO.out (.inr (fun e=>hk2 (Prod.mk.inj e).1))⟩,(fun e=>absurd e (by simp)),HGG.out.2.1,((Kp.refl [] wr).drewN _).own HGG.out.2.2.1 (by simp),HGG.out.2.2.2.drewN _⟩⟩
            case measure=>simp[intOf];omega
      ·have i1:¬(i:Int)<(k:Int):=by omega
       have HK12:As (Kp [] w wr):=⟨HRL10.out.2.trans HF.out.2.2 (by simp)⟩
       go_wp2_with (first
        |(go_at_call 7;refine(HKN.out _).mono ?_;rintro e w12 ⟨rfl,k12⟩;have HK13:=As.mk k12;clear k12)
        |fail)
       go_ret
       exact⟨rfl,(HK12.out.trans HK13.out (by simp)).below⟩
theorem cfnd_row(w:World)(A:Option Addr)(n c:Nat)(a:List (ByteArray×Int))(hn:a.length=n)(hr:Rd w A (mv a))(_:n<=c)(_:c<=9223372036854775807)(hnil:A=none->c=0)(hza:mSize a<=2097152)(B:Option Addr)(m d:Nat)(b:List (ByteArray×Int))(hm:b.length=m)(hr2:Rd w B (mv b))(_:m<=d)(_:d<=9223372036854775807)(hnil2:B=none->d=0)(hzb:mSize b<=2097152)(turn missing:Bool):
 Calls Tryz.prog 5 #[.slice A n c,.slice B m d,.bool turn,.bool missing] w fun e w'=>e= .returned (.bool true)/\Below w.heap.size w w':=cfnd_law w A n c a B m d b turn missing hn hr hnil hza hm hr2 hnil2 hzb
end Go.Proofs.YtdiljpdohmeceaaGreat.co
