/- Words and walks that this claim rests on: proved lemmas alone. -/
import Derived.Test.YtdiljpdohmeceaaGreatZ27
set_option maxHeartbeats 16000000
set_option maxRecDepth 100000
namespace Go.Proofs.YtdiljpdohmeceaaGreat.co.cr
open Go.RowKit H O opk frame wir
structure Fa where
 was:Bool
 has:Bool
 At:Option Addr
 nt:Nat
 ct:Nat
 Am:Option Addr
 nm:Nat
 cm:Nat
 text:List Int
 ms:List (ByteArray×Int)
structure FaAt(S:List Nat)(w:World)(ga q:Nat)(f:Fa):Prop where
 q7:w.cell? ⟨ga,q*11+7,none⟩=some (.bool f.was)
 q8:w.cell? ⟨ga,q*11+8,none⟩=some (.bool f.has)
 q9:w.cell? ⟨ga,q*11+9,none⟩=some (.slice f.At f.nt f.ct)
 q10:w.cell? ⟨ga,q*11+10,none⟩=some (.slice f.Am f.nm f.cm)
 tx:BSl S w (.slice f.At f.nt f.ct) f.text
 mx:MSl S w (.slice f.Am f.nm f.cm) f.ms
structure FinSt(U:List Nat)(L:RLay)(cf:Cfg)(s:Cs)(j:Job)(i ga:Nat)(a:Ask)(w:World)(data:List Int)(bad:Bool)(f:Fa)(wz:World):Prop where
 kp:Kp L.ga.toList w wz
 q6:wz.cell? ⟨ga,i*11+6,none⟩=some (.bool false)
 fr:∀j,wz.frozen? ⟨ga,j,none⟩=false
 fa:FaAt (L.all++U) wz ga i f
 ok:bad=false->took j data=⟨f.was,f.has,f.text,f.ms,0⟩
 no:bad=true->(took j data).err=3
 find:j.kind=4->f.was=false/\f.has=false/\f.text=[]/\RsSt U wz L cf {s with asks:=s.asks.set i {a with ms:=f.ms}}
structure FinA(U:List Nat)(L:RLay)(cf:Cfg)(s:Cs)(w:World)(ga n:Nat)(az:List Ask)(t:Took)(F:Nat->Fa)(w5:World):Prop where
 kp:Kp L.ga.toList w w5
 c7:∃cA,w5.cell? ⟨L.b,7,none⟩=some (.slice (some ⟨ga,0,none⟩) n cA)
 q6:∀q x,az[q]?=some x->w5.cell? ⟨ga,q*11+6,none⟩=some (.bool x.answered)
 fa:∀q,q<n->FaAt (L.all++U) w5 ga q (F q)
 len:az.length=n
 go:az.all (·.answered)=false->RsSt U w5 L cf {s with asks:=az}
 pos:0<n
 was:(F (n-1)).was=t.was/\(F (n-1)).has=t.has/\(F (n-1)).text=t.text
 ms:(List.range n).flatMap (fun q=>(F q).ms)=az.flatMap (·.ms)
theorem RsSt.faAt{U:List Nat}{w:World}{L:RLay}{cf:Cfg}{s:Cs}(h:RsSt U w L cf s){ga:Nat}(hga:L.ga=some ga){q:Nat}{x:Ask}(hx:s.asks[q]?=some x):w.cell? ⟨ga,q*11+6,none⟩=some (.bool x.answered)/\∃Am nm cm,FaAt (L.all++U) w ga q ⟨false,false,none,0,0,Am,nm,cm,[],x.ms⟩:=by
 obtain⟨κ,VS,VW,VL,VA,VD,h⟩:=h
 obtain⟨g,c,fv,mv',rfl,hg,cell,fr,hf,hm,upd⟩:=h.askAt hx
 obtain rfl:g=ga:=by rw[hga] at hg;exact(Option.some.inj hg).symm
 obtain⟨Am,cm,rfl,hm2⟩:=id hm
 exact⟨cell 6 _ rfl,Am,_,cm,cell 7 _ rfl,cell 8 _ rfl,cell 9 _ rfl,cell 10 _ rfl,BSl.nil _ _,hm⟩
theorem flat_range(l:List Ask)(F:Nat->Fa)(h:∀q x,l[q]?=some x->(F q).ms=x.ms):(List.range l.length).flatMap (fun q=>(F q).ms)=l.flatMap (·.ms):=by
 induction l generalizing F with
 |nil=>rfl
 |cons x l ih=>
  rw[List.length_cons,List.range_succ_eq_map,List.flatMap_cons,List.flatMap_map,List.flatMap_cons,h 0 x rfl]
  congr 1
  exact ih (fun q=>F (q+1)) (fun q y hy=>h (q+1) y hy)
theorem FinSt.set{U:List Nat}{L:RLay}{cf:Cfg}{s:Cs}{j:Job}{jr:List Job}{i ga:Nat}{a:Ask}{w:World}{data:List Int}{f:Fa}{wz:World}(h:FinSt U L cf s j i ga a w data false f wz)(hj:s.jobs=j::jr)(ho:HOk s)(ha:s.asks[i]?=some a)(hga:L.ga=some ga)(hC:RsSt U w L cf s):
 ∃F,FinA U L cf s w ga s.asks.length (s.asks.set i {a with answered:=true,ms:=(took j data).ms}) (took j data) F (wz.setCell ⟨ga,i*11+6,none⟩ (.bool true)):=by
 have ht:=h.ok rfl
 have hil:=(List.getElem?_eq_some_iff.1 ha).1
 have hin:ga∈L.all:=RLay.mem.2 (.inr (.inr (.inr (.inl hga))))
 have kS:Kp [ga] wz (wz.setCell ⟨ga,i*11+6,none⟩ (.bool true)):=(Kp.refl _ wz).setCell (.inl (by simp)) _
 have kT:Kp L.ga.toList w (wz.setCell ⟨ga,i*11+6,none⟩ (.bool true)):=h.kp.trans kS (fun x hx=> .inl (by simp at hx;subst hx;simp[hga]))
 obtain⟨ga',hA⟩:=hC.ask ha
 obtain rfl:ga'=ga:=by have:=hA.hga;rw[hga] at this;exact(Option.some.inj this).symm
 have hc7:∃cA,(wz.setCell ⟨ga',i*11+6,none⟩ (.bool true)).cell? ⟨L.b,7,none⟩=some (.slice (some ⟨ga',0,none⟩) s.asks.length cA):=by
  obtain⟨cA,hc⟩:=hA.c7
  exact⟨cA,kT.cell hc (by simp[hga];exact hA.ne.1.symm)⟩
 have hSin:∀x∈[ga'],x∈L.all++U\/wz.heap.size<=x:=fun x hx=> .inl (by simp at hx;subst hx;exact List.mem_append.2 (.inl hin))
 have far:∀o v,o≠i*11+6->wz.cell? ⟨ga',o,none⟩=some v->(wz.setCell ⟨ga',i*11+6,none⟩ (.bool true)).cell? ⟨ga',o,none⟩=some v:=fun o v ho hv=>by
  rw[World.cell?_setCell_other]
  ·exact hv
  ·intro e
   simp only[Addr.mk.injEq,true_and,and_true] at e
   exact ho e.symm
 have fai:FaAt (L.all++U) (wz.setCell ⟨ga',i*11+6,none⟩ (.bool true)) ga' i f:=⟨far _ _ (by omega) h.fa.q7,far _ _ (by omega) h.fa.q8,far _ _ (by omega) h.fa.q9,far _ _ (by omega) h.fa.q10,h.fa.tx.kp kS hSin (fun x hx=> .inl hx),h.fa.mx.kp kS hSin (fun x hx=> .inl hx)⟩
 have hnew:(wz.setCell ⟨ga',i*11+6,none⟩ (.bool true)).cell? ⟨ga',i*11+6,none⟩=some (.bool true):=World.cell?_setCell_same _ _ _ h.q6
 by_cases hk:j.kind=4
 ·obtain⟨f1,f2,f3,hR⟩:=h.find hk
  have haz:(s.asks.set i {a with ms:=f.ms})[i]?=some {a with ms:=f.ms}:=List.getElem?_set_self hil
  obtain⟨g2,hA2⟩:=hR.ask haz
  obtain rfl:g2=ga':=by have:=hA2.hga;rw[hga] at this;exact(Option.some.inj this).symm
  have hR2:=hA2.answ true
  rw[show({s with asks:=s.asks.set i {a with ms:=f.ms}}:Cs).asks=s.asks.set i {a with ms:=f.ms} from rfl,List.set_set] at hR2
  have hms:(took j data).ms=f.ms:=by rw[ht]
  rw[hms]
  have hR2:RsSt U (wz.setCell ⟨g2,i*11+6,none⟩ (.bool true)) L cf {s with asks:=s.asks.set i {a with answered:=true,ms:=f.ms}}:=hR2
  have hlen:(s.asks.set i {a with answered:=true,ms:=f.ms}).length=s.asks.length:=List.length_set
  have hall:∀q,∃fq:Fa,q<s.asks.length->(FaAt (L.all++U) (wz.setCell ⟨g2,i*11+6,none⟩ (.bool true)) g2 q fq/\fq.was=false/\fq.has=false/\fq.text=[]/\∀x,(s.asks.set i {a with answered:=true,ms:=f.ms})[q]?=some x->fq.ms=x.ms):=fun q=>by
   by_cases hq:q<s.asks.length
   ·obtain⟨x,hx⟩:∃x,(s.asks.set i {a with answered:=true,ms:=f.ms})[q]?=some x:=⟨_,List.getElem?_eq_getElem (by omega)⟩
    obtain⟨_,Am,nm,cm,hf⟩:=hR2.faAt hga hx
    exact⟨_,fun _=>⟨hf,rfl,rfl,rfl,fun y hy=>by rw[hx] at hy;cases hy;rfl⟩⟩
   ·exact⟨f,fun h=>absurd h hq⟩
  obtain⟨F,hF⟩:=Classical.axiomOfChoice hall
  refine⟨F,kT,hc7,fun q x hx=>(hR2.faAt hga hx).1,fun q hq=>(hF q hq).1,hlen,fun _=>hR2,by omega, ?_, ?_⟩
  ·obtain⟨_,e1,e2,e3,_⟩:=hF (s.asks.length-1) (by omega)
   rw[ht]
   exact⟨e1.trans f1.symm,e2.trans f2.symm,e3.trans f3.symm⟩
  ·rw[<-hlen]
   exact flat_range _ F (fun q x hx=>(hF q (by have:=(List.getElem?_eq_some_iff.1 hx).1;omega)).2.2.2.2 x hx)
 ·have h1:=ho.one j jr hj hk
  have hl1:s.asks.length=1:=by omega
  obtain rfl:i=0:=by omega
  have hlen:(s.asks.set 0 {a with answered:=true,ms:=(took j data).ms}).length=s.asks.length:=List.length_set
  have hone:s.asks.set 0 {a with answered:=true,ms:=(took j data).ms}=[{a with answered:=true,ms:=(took j data).ms}]:=by
   match h9:s.asks,hl1 with
   |[x],_=>rfl
  refine⟨fun _=>f,kT,hc7,fun q x hx=> ?_,fun q hq=> ?_,hlen,fun hf=> ?_,by omega,by rw[ht];exact⟨rfl,rfl,rfl⟩, ?_⟩
  ·rw[hone] at hx
   match q,hx with
   |0,hx=>cases hx;exact hnew
  ·obtain rfl:q=0:=by omega
   exact fai
  ·rw[hone] at hf
   simp at hf
  ·rw[hl1,hone,ht]
   simp
end Go.Proofs.YtdiljpdohmeceaaGreat.co.cr
namespace Go.Proofs.YtdiljpdohmeceaaGreat.refr
open Go.RowKit H O
def Emp(w:World)(b:Nat)(A:Option Addr)(c:Nat):Prop:=w.heap[b]?=some (.cells #[.slice A 0 c,.bool false] 106 (0,0))
def EmpPost(b:Nat)(v:Value)(w:World)(e:Ending)(w':World):Prop:=e= .returned v/\Rdr w' b none none/\Kp [b] w w'
theorem bad_empty{w:World}{b:Nat}{A:Option Addr}{c:Nat}(h:Emp w b A c):Calls Tryz.prog 78 #[.pointer (some ⟨b,0,none⟩)] w (EmpPost b (.tuple #[]) w):=by
 have c0:=bkc h 0 rfl
 have c1:=bkc h 1 rfl
 have f0:=blk_free h 0
 have f1:=blk_free h 1
 have HB:As (EmpPost b (.tuple #[]) w (.returned (.tuple #[])) ((w.setCell ⟨b,1,none⟩ (.bool true)).setCell ⟨b,0,none⟩ (.slice none 0 0))):=⟨by
  have e1:(w.setCell ⟨b,1,none⟩ (.bool true)).heap[b]?=some (.cells #[.slice A 0 c,.bool true] 106 (0,0)):=heap_setCell_same w b 1 _ _ (.bool true) h
  have e2:((w.setCell ⟨b,1,none⟩ (.bool true)).setCell ⟨b,0,none⟩ (.slice none 0 0)).heap[b]?=some (.cells #[.slice none 0 0,.bool true] 106 (0,0)):=heap_setCell_same _ b 0 _ _ (.slice none 0 0) e1
  exact⟨rfl,⟨none,0,e2,rfl,Rd.nil _ _,by simp[left],by omega,fun _=>rfl,by simp,Wf.nil⟩,((Kp.refl _ w).setCell (.inl (by simp)) _).setCell (.inl (by simp)) _⟩⟩
 clear h
 go_enter Tryz.func78,Tryz.ntmps78
 go_wp2
 go_end0
 exact HB.out
theorem raw_empty{w:World}{b:Nat}{A:Option Addr}{c:Nat}(h:Emp w b A c):Calls Tryz.prog 34 #[.pointer (some ⟨b,0,none⟩),.int .i64 1] w (EmpPost b (.slice none 0 0) w):=by
 have c0:=bkc h 0 rfl
 have c1:=bkc h 1 rfl
 have HBAD:=As.mk (bad_empty h)
 clear h
 go_enter Tryz.func34,Tryz.ntmps34
 go_wp2_with (go_at_call 78;refine HBAD.out.mono ?_;rintro e w1 ⟨rfl,R1,K1⟩;obtain⟨A2,c2,hb2,_⟩:=id R1;have c21:=bkc hb2 1 rfl;have HP:=As.mk (And.intro R1 K1);clear R1 K1 hb2 HBAD)
 go_ret
 exact⟨rfl,HP.out⟩
theorem num_empty{w:World}{b:Nat}{A:Option Addr}{c:Nat}(h:Emp w b A c):Calls Tryz.prog 35 #[.pointer (some ⟨b,0,none⟩)] w (EmpPost b (.int .i64 0) w):=by
 have HRW:=As.mk (raw_empty h)
 clear h
 go_enter Tryz.func35,Tryz.ntmps35
 go_wp2
 go_loopw [3,4] (fun u i wr=>i= .int .i64 0/\u= .int .u64 0/\As (wr=w)) (fun _ i _=>0)
 case atStart=>exact⟨rfl,rfl,⟨rfl⟩⟩
 case round=>
  obtain⟨rfl,rfl,⟨rfl⟩⟩:=hrel
  go_wp2_with (go_at_call 34;refine HRW.out.mono ?_;rintro e w1 ⟨rfl,R1,K1⟩;obtain⟨A2,c2,hb2,_⟩:=id R1;have c21:=bkc hb2 1 rfl;have HP:=As.mk (And.intro R1 K1);clear R1 K1 hb2 HRW)
  go_ret
  exact⟨rfl,HP.out⟩
end Go.Proofs.YtdiljpdohmeceaaGreat.refr
namespace Go.Proofs.YtdiljpdohmeceaaGreat.ref13
open Go.RowKit H O opk haystacklaw13 refr
theorem MR.first{w:World}{A:Option Addr}{n c N:Nat}{xs:List Int}{s1:Option (List Int)}(hn:xs.length=n)(hr:Rd w A (iv .u8 xs))(hc:n<=c)(hc9:c<=9223372036854775807)(hnil:A=none->c=0)(hA:(∀a,A=some a->a.block<w.heap.size)\/n=0)(hw:Wf xs)(hl:(left (some xs)).length<=140737488351232)(h0:stNum (some xs)=(N,s1)):
 Calls Tryz.prog 35 #[.pointer (some ⟨w.heap.size,0,none⟩)] (w.alloc (.cells #[.slice A n c,.bool false] 106)) fun e w5=>e= .returned (.int .i64 (N:Int))/\MR w w5 w.heap.size (w.heap.size+1) (.slice none 0 0) 0 [] s1/\Kp [w.heap.size] (w.alloc (.cells #[.slice A n c,.bool false] 106)) w5:=by
 rcases hA with hA|rfl
 ·exact take_num (MR.box hn hr hc hc9 hnil hA hw) hl h0
 ·obtain rfl:xs=[]:=List.eq_nil_of_length_eq_zero hn
  have e0:stNum (some [])=(0,none):=rfl
  rw[e0] at h0
  cases h0
  refine(num_empty (A:=A) (c:=c) (b:=w.heap.size) (heap_alloc_new w _)).mono ?_
  rintro e w5 ⟨rfl,R5,K5⟩
  exact⟨rfl,⟨((Kp.refl [] w).alloc _).trans K5 (by simp),World.ownsRow_nil _ 0 _ 2,by simp[Value.ownBlock],⟨none,R5,by simp⟩,⟨Nat.le_refl _,by omega,by have:=K5.size;simpa using this⟩⟩,K5⟩
theorem readMs_any(A:Option Addr)(n c:Nat)(xs:List Int)(w:World)(hn:xs.length=n)(hr:Rd w A (iv .u8 xs))(hc:n<=c)(hc9:c<=9223372036854775807)(hnil:A=none->c=0)(hA:(∀a,A=some a->a.block<w.heap.size)\/n=0)(hw:Wf xs)(hm:n<=50000):
 Calls Tryz.prog 131 #[.slice A n c] w (DMs xs w):=by
 obtain⟨N,s1,h0⟩:∃a b,stNum (some xs)=(a,b):=⟨_,_,rfl⟩
 have HE:=As.mk (dMs_eq h0)
 have hl1:(left s1).length<=50000:=by
  have q1:=refr.left_le (s:=some xs) (m:=50000) (by simp[left];omega)
  rwa[h0] at q1
 have HC:As (∀j r,(mIter j s1).2=some r->j+r.length<=50000):=⟨fun j r h=>by have:=mIter_count h;omega⟩
 have H0:=As.mk h0
 have HL0:As ((left (some xs)).length<=140737488351232):=⟨by simp[left];omega⟩
 have HNM:=As.mk (MR.first hn hr hc hc9 hnil hA hw HL0.out h0)
 clear h0 hl1 hn hr hc hc9 hnil hA hw
 go_enter Tryz.func131,Tryz.ntmps131
 go_wp2_with (go_at_call 35;refine HNM.out.mono ?_;rintro e w3 ⟨rfl,h3,k3⟩;have HS3:=As.mk h3;clear h3 k3 HNM)
 go_loopw [6,7] (fun v i wr=>∃(k cX:Nat) (AX:Option Addr),i= .int .i64 (k:Int)/\v= .slice AX k cX/\k<=N/\As (MR w wr w.heap.size (w.heap.size+1) (.slice AX k cX) k (mIter k s1).1 (mIter k s1).2)) (fun _ i _=>N-(intOf i).toNat)
 case atStart=>exact⟨0,0,none,rfl,rfl,by omega,HS3⟩
 case round=>
  obtain⟨k,cX,AX,rfl,rfl,hk,HD⟩:=hrel
  by_cases hlt:k<N
  ·cases hst:(mIter k s1).2 with
   |none=>
    have HD':=HD.out
    rw[hst] at HD'
    have dE:=HD'.err
    have HWH:=As.mk (take_whole HD')
    have HZ:As (dMs xs=([],3)):=⟨by rw[HE.out,mIter_stay hst (by omega),if_neg (by simp)]⟩
    have HKP:=As.mk HD'.kp
    clear HD' hst
    go_wp2_with (go_at_call 37;refine HWH.out.mono ?_;rintro e w6 ⟨rfl,rfl⟩;clear HWH)
    go_ret2
    exact dms_none HZ.out HKP.out
   |some rest=>
    have hk9:k<=50000:=by have:=HC.out k rest hst;omega
    have HD':=HD.out
    rw[hst] at HD'
    have dE:=HD'.err
    obtain⟨p,s4,hp⟩:∃p q,stBytes (some rest)=(p,q):=⟨_,_,rfl⟩
    obtain⟨y,s5,hy⟩:∃p q,stNum s4=(p,q):=⟨_,_,rfl⟩
    have hrest:(left (some rest)).length<=140737488351232:=by have:=HC.out k rest hst;simp[left];omega
    have hl4:(left s4).length<=140737488351232:=by have h:=stBytes_left (s:=some rest) hrest;rwa[hp] at h
    have HBYX:As (∀wX,Kp [] wr wX->Calls Tryz.prog 36 #[.pointer (some ⟨w.heap.size,0,none⟩)] wX fun e w5=>∃A5 n5 c5,e= .returned (.slice A5 n5 c5)/\p.length=n5/\MR w w5 w.heap.size (w.heap.size+1) (.slice AX k cX) k (mIter k s1).1 s4/\(∀w6,Kp [w.heap.size] w5 w6->Rd w6 A5 (iv .u8 p))/\Kp [w.heap.size] wX w5):=⟨fun wX kX=>take_bytes (HD'.skip kX) hrest hp⟩
    have HNUX:As (∀wY,MR w wY w.heap.size (w.heap.size+1) (.slice AX k cX) k (mIter k s1).1 s4->Calls Tryz.prog 35 #[.pointer (some ⟨w.heap.size,0,none⟩)] wY fun e w5=>e= .returned (.int .i64 (y:Int))/\MR w w5 w.heap.size (w.heap.size+1) (.slice AX k cX) k (mIter k s1).1 s5/\Kp [w.heap.size] wY w5):=⟨fun wY hY=>take_num hY hl4 hy⟩
    have HOB:As (∀z,(Value.slice AX k cX).ownBlock=some z->z<wr.heap.size):=⟨fun z hz=>own_lt HD'.own z hz⟩
    have HNZ:As (w.heap.size+1<=wr.heap.size):=⟨HD'.ord.2.2⟩
    have HNX:As ((mIter (k+1) s1).1=(mIter k s1).1++[(strOfNums p,(y:Int))]/\(mIter (k+1) s1).2=if 1<=p.length/\p.length<=64 then s5 else none):=⟨by simp only[mIter,hst,mStep,hp,hy,and_self]⟩
    have hX0:w.heap.size<wr.heap.size:=by have:=HD'.ord;omega
    have HXB:=As.mk hX0
    clear HD' hst hrest hl4 hp hy hX0
    obtain⟨w5,rfl⟩:∃w5,w5=wr:=⟨_,rfl⟩
    go_upto_region 7 with fail
    go_cut [8] from 14 to 41 (fun v wx=>∃X,v= .pointer (some ⟨X,0,none⟩)/\As (MR w wx w.heap.size (w.heap.size+1) (.slice AX k cX) k (mIter k s1).1 s5/\PlAt wx X (strOfNums p) y/\w.heap.size<X))
    case first=>
     go_region_law (first
      |(go_simp;go_at_call 36;(first|(refine(HBYX.out _ (Kp.refl [] _).drew).mono ?_;rintro e w6 HP;obtain⟨A6,n6,c6,rfl,hn6,h6,r6,k6⟩:=HP)|(refine(HBYX.out _ ((Kp.refl [] _).drew.alloc _)).mono ?_;rintro e w6 HP;obtain⟨A6,n6,c6,rfl,hn6,h6,r6,k6⟩:=HP;have HZ6:As (PlAt w6 w5.heap.size ⟨#[]⟩ 0):=⟨(PlAt.new w5.drew ⟨#[]⟩ 0).kp k6 (by have:=HXB.out;simp;omega)⟩;obtain⟨z60,z61⟩:=HZ6.out.cells;have f60:=HZ6.out.free 0;have f61:=HZ6.out.free 1));have HS6:As (w5.heap.size<=w6.heap.size):=⟨by have:=k6.size;simp at this;omega⟩;have HD6:=As.mk h6;have HN6:=As.mk hn6;have HR6:=As.mk r6;have hcv:=conv_str (c:=c6) hn6 (r6 w6 (Kp.refl _ _));have hcva:=fun o=>conv_str (c:=c6) hn6 (r6 (w6.alloc o) ((Kp.refl _ _).alloc _));clear hn6 h6 r6 k6)
      |(go_simp;go_at_call 35;refine(HNUX.out _ (by first|exact HD6.out|exact HD6.out.skip ((Kp.refl [] _).alloc _))).mono ?_;rintro e w7 HP;obtain⟨rfl,h7,k7⟩:=HP;have HD7:=As.mk h7;have k67:Kp [w.heap.size] w6 w7:=(by first|exact k7|exact((Kp.refl [w.heap.size] _).alloc _).trans k7 (fun x hx=> .inl hx));have hcv7:=conv_str (c:=c6) HN6.out (HR6.out w7 k67);have hcva7:=fun o=>conv_str (c:=c6) HN6.out (HR6.out (w7.alloc o) (k67.alloc o));(first|(have HZ7:=As.mk (HZ6.out.kp k7 (by have:=HXB.out;simp;omega));obtain⟨z70,z71⟩:=HZ7.out.cells;have f70:=HZ7.out.free 0;have f71:=HZ7.out.free 1)|(have HZ7:As (PlAt w7 w6.heap.size ⟨#[]⟩ 0):=⟨(PlAt.new w6 ⟨#[]⟩ 0).kp k7 (by have:=HD6.out.ord;simp;omega)⟩;obtain⟨z70,z71⟩:=HZ7.out.cells;have f70:=HZ7.out.free 0;have f71:=HZ7.out.free 1)|skip);clear h7 k7 k67))
     all_goals go_wp2_with fail
     all_goals go_meet
     all_goals first
      |exact⟨_,rfl,⟨HD7.out.made HZ7.out (by have:=HS6.out;have:=HNZ.out;omega) (fun z hz=>by have:=HOB.out z hz;have:=HS6.out;omega) _ _⟩⟩
      |exact⟨_,rfl,⟨HD7.out.laid _ _⟩⟩
    case rest=>
     obtain⟨X,rfl,HQ⟩:=hcut
     obtain⟨e0,e1⟩:=HQ.out.2.1.cells
     have hXlt:X<wc.heap.size:=lt_of_block HQ.out.2.1
     by_cases hkey:1<=p.length/\p.length<=64
     ·have HI:=As.mk (key_any (strOfNums p) wc)
      rw[str_size,decide_eq_true hkey] at HI
      have HNX2:=HNX.out.2
      rw[if_pos hkey] at HNX2
      have HNY:=As.mk (And.intro HNX.out.1 HNX2)
      clear HNX2 HNX hkey
      go_wp2_with (first
       |(go_at_call 79;refine HI.out.mono ?_;rintro e w8 ⟨rfl,rfl⟩;clear HI)
       |(at_builtin;refine refr.appM rfl (.tmp 38) (.tmp 40) rfl (.slice AX k cX) k (mv (mIter k s1).1) rfl (((Kp.refl [] _).alloc _).own HQ.out.1.own (by simp)) w8.heap.size (strOfNums p) y rfl (PlAt.new w8 _ _) (by omega) ?_;intro v9 w9 o9 k9 a9;have h9:=(HQ.out.1.skip ((Kp.refl [] _).alloc _)).put (m:=(strOfNums p,(y:Int))) o9 k9 a9;obtain⟨A9,c9,rfl,_⟩:=own_rd o9;have HD9:=As.mk h9;clear o9 k9 a9 h9))
      go_roundw
      case rel=>exact⟨k+1,c9,A9,by go_num,rfl,by omega,⟨by rw[HNY.out.1,HNY.out.2];exact HD9.out⟩⟩
      case measure=>simp[intOf];omega
     ·have HI:=As.mk (key_any (strOfNums p) wc)
      rw[str_size,decide_eq_false hkey] at HI
      have HNX2:=HNX.out.2
      rw[if_neg hkey] at HNX2
      have HNY:=As.mk (And.intro HNX.out.1 HNX2)
      have HBD:=As.mk (take_bad HQ.out.1)
      clear HNX2 HNX hkey
      go_wp2_with (first
       |(go_at_call 79;refine HI.out.mono ?_;rintro e w8 ⟨rfl,rfl⟩;clear HI)
       |(go_at_call 78;refine HBD.out.mono ?_;rintro e w8' ⟨rfl,h8,k8⟩;have HB8:=As.mk h8;obtain⟨e80,e81⟩:=(HQ.out.2.1.kp k8 (by have:=HQ.out.2.2;simp;omega)).cells;have hX8:X<w8'.heap.size:=(by have:=k8.size;omega);clear h8 k8 HBD)
       |(at_builtin;refine refr.appM rfl (.tmp 38) (.tmp 40) rfl (.slice AX k cX) k (mv (mIter k s1).1) rfl (((Kp.refl [] _).alloc _).own HB8.out.own (by simp)) w8'.heap.size (strOfNums p) y rfl (PlAt.new w8' _ _) (by omega) ?_;intro v9 w9 o9 k9 a9;have h9:=(HB8.out.skip ((Kp.refl [] _).alloc _)).put (m:=(strOfNums p,(y:Int))) o9 k9 a9;obtain⟨A9,c9,rfl,_⟩:=own_rd o9;have HD9:=As.mk h9;clear o9 k9 a9 h9))
      go_roundw
      case rel=>exact⟨k+1,c9,A9,by go_num,rfl,by omega,⟨by rw[HNY.out.1,HNY.out.2];exact HD9.out⟩⟩
      case measure=>simp[intOf];omega
  ·obtain rfl:k=N:=by omega
   have HWH:=As.mk (take_whole HD.out)
   cases hwh:whole (mIter k s1).2 with
   |false=>
    have HZ:As (dMs xs=([],3)):=⟨by rw[HE.out,if_neg];intro h9;rw[h9] at hwh;simp[whole] at hwh⟩
    rw[hwh] at HWH
    clear hwh
    go_wp2_with (go_at_call 37;refine HWH.out.mono ?_;rintro e w6 ⟨rfl,rfl⟩;clear HWH)
    go_ret2
    exact dms_none HZ.out HD.out.kp
   |true=>
    have HZ:As (dMs xs=((mIter k s1).1,0)):=⟨by rw[HE.out,if_pos];simpa [whole] using hwh⟩
    rw[hwh] at HWH
    clear hwh
    go_wp2_with (go_at_call 37;refine HWH.out.mono ?_;rintro e w6 ⟨rfl,rfl⟩;clear HWH)
    go_ret2
    obtain⟨A9,c9,h9,hc9,_,r9,n9⟩:=own_rd HD.out.own
    cases h9
    exact⟨_,_,AX,k,cX,HZ.out,rfl,mIter_len k s1,r9,hc9,n9,HD.out.kp⟩
def DMsN(xs:List Int)(w:World)(e:Ending)(w':World):Prop:=
 ∃(l:List (ByteArray×Int)) (z:Int) (A:Option Addr) (n c:Nat),dMs xs=(l,z)/\e= .returned (.tuple #[.slice A n c,.int .i64 z])/\l.length=n/\w'.ownsRow 0 73 2 (.slice A n c) n (mv l)/\(∀g,(Value.slice A n c).ownBlock=some g->w.heap.size<=g)/\Kp [] w w'
theorem dmsn_none{xs:List Int}{w w':World}(h:dMs xs=([],3))(k:Kp [] w w'):DMsN xs w (.returned (.tuple #[.slice none 0 0,.int .i64 3])) w':=
 ⟨[],3,none,0,0,h,rfl,rfl,World.ownsRow_nil _ 0 _ 2,by simp[Value.ownBlock],k⟩
theorem readMs_new(A:Option Addr)(n c:Nat)(xs:List Int)(w:World)(hn:xs.length=n)(hr:Rd w A (iv .u8 xs))(hc:n<=c)(hc9:c<=9223372036854775807)(hnil:A=none->c=0)(hA:(∀a,A=some a->a.block<w.heap.size)\/n=0)(hw:Wf xs)(hm:n<=50000):
 Calls Tryz.prog 131 #[.slice A n c] w (DMsN xs w):=by
 obtain⟨N,s1,h0⟩:∃a b,stNum (some xs)=(a,b):=⟨_,_,rfl⟩
 have HE:=As.mk (dMs_eq h0)
 have hl1:(left s1).length<=50000:=by
  have q1:=refr.left_le (s:=some xs) (m:=50000) (by simp[left];omega)
  rwa[h0] at q1
 have HC:As (∀j r,(mIter j s1).2=some r->j+r.length<=50000):=⟨fun j r h=>by have:=mIter_count h;omega⟩
 have H0:=As.mk h0
 have HL0:As ((left (some xs)).length<=140737488351232):=⟨by simp[left];omega⟩
 have HNM:=As.mk (MR.first hn hr hc hc9 hnil hA hw HL0.out h0)
 clear h0 hl1 hn hr hc hc9 hnil hA hw
 go_enter Tryz.func131,Tryz.ntmps131
 go_wp2_with (go_at_call 35;refine HNM.out.mono ?_;rintro e w3 ⟨rfl,h3,k3⟩;have HS3:=As.mk h3;clear h3 k3 HNM)
 go_loopw [6,7] (fun v i wr=>∃(k cX:Nat) (AX:Option Addr),i= .int .i64 (k:Int)/\v= .slice AX k cX/\k<=N/\As (MR w wr w.heap.size (w.heap.size+1) (.slice AX k cX) k (mIter k s1).1 (mIter k s1).2)) (fun _ i _=>N-(intOf i).toNat)
 case atStart=>exact⟨0,0,none,rfl,rfl,by omega,HS3⟩
 case round=>
  obtain⟨k,cX,AX,rfl,rfl,hk,HD⟩:=hrel
  by_cases hlt:k<N
  ·cases hst:(mIter k s1).2 with
   |none=>
    have HD':=HD.out
    rw[hst] at HD'
    have dE:=HD'.err
    have HWH:=As.mk (take_whole HD')
    have HZ:As (dMs xs=([],3)):=⟨by rw[HE.out,mIter_stay hst (by omega),if_neg (by simp)]⟩
    have HKP:=As.mk HD'.kp
    clear HD' hst
    go_wp2_with (go_at_call 37;refine HWH.out.mono ?_;rintro e w6 ⟨rfl,rfl⟩;clear HWH)
    go_ret2
    exact dmsn_none HZ.out HKP.out
   |some rest=>
    have hk9:k<=50000:=by have:=HC.out k rest hst;omega
    have HD':=HD.out
    rw[hst] at HD'
    have dE:=HD'.err
    obtain⟨p,s4,hp⟩:∃p q,stBytes (some rest)=(p,q):=⟨_,_,rfl⟩
    obtain⟨y,s5,hy⟩:∃p q,stNum s4=(p,q):=⟨_,_,rfl⟩
    have hrest:(left (some rest)).length<=140737488351232:=by have:=HC.out k rest hst;simp[left];omega
    have hl4:(left s4).length<=140737488351232:=by have h:=stBytes_left (s:=some rest) hrest;rwa[hp] at h
    have HBYX:As (∀wX,Kp [] wr wX->Calls Tryz.prog 36 #[.pointer (some ⟨w.heap.size,0,none⟩)] wX fun e w5=>∃A5 n5 c5,e= .returned (.slice A5 n5 c5)/\p.length=n5/\MR w w5 w.heap.size (w.heap.size+1) (.slice AX k cX) k (mIter k s1).1 s4/\(∀w6,Kp [w.heap.size] w5 w6->Rd w6 A5 (iv .u8 p))/\Kp [w.heap.size] wX w5):=⟨fun wX kX=>take_bytes (HD'.skip kX) hrest hp⟩
    have HNUX:As (∀wY,MR w wY w.heap.size (w.heap.size+1) (.slice AX k cX) k (mIter k s1).1 s4->Calls Tryz.prog 35 #[.pointer (some ⟨w.heap.size,0,none⟩)] wY fun e w5=>e= .returned (.int .i64 (y:Int))/\MR w w5 w.heap.size (w.heap.size+1) (.slice AX k cX) k (mIter k s1).1 s5/\Kp [w.heap.size] wY w5):=⟨fun wY hY=>take_num hY hl4 hy⟩
    have HOB:As (∀z,(Value.slice AX k cX).ownBlock=some z->z<wr.heap.size):=⟨fun z hz=>own_lt HD'.own z hz⟩
    have HNZ:As (w.heap.size+1<=wr.heap.size):=⟨HD'.ord.2.2⟩
    have HNX:As ((mIter (k+1) s1).1=(mIter k s1).1++[(strOfNums p,(y:Int))]/\(mIter (k+1) s1).2=if 1<=p.length/\p.length<=64 then s5 else none):=⟨by simp only[mIter,hst,mStep,hp,hy,and_self]⟩
    have hX0:w.heap.size<wr.heap.size:=by have:=HD'.ord;omega
    have HXB:=As.mk hX0
    clear HD' hst hrest hl4 hp hy hX0
    obtain⟨w5,rfl⟩:∃w5,w5=wr:=⟨_,rfl⟩
    go_upto_region 7 with fail
    go_cut [8] from 14 to 41 (fun v wx=>∃X,v= .pointer (some ⟨X,0,none⟩)/\As (MR w wx w.heap.size (w.heap.size+1) (.slice AX k cX) k (mIter k s1).1 s5/\PlAt wx X (strOfNums p) y/\w.heap.size<X))
    case first=>
     go_region_law (first
      |(go_simp;go_at_call 36;(first|(refine(HBYX.out _ (Kp.refl [] _).drew).mono ?_;rintro e w6 HP;obtain⟨A6,n6,c6,rfl,hn6,h6,r6,k6⟩:=HP)|(refine(HBYX.out _ ((Kp.refl [] _).drew.alloc _)).mono ?_;rintro e w6 HP;obtain⟨A6,n6,c6,rfl,hn6,h6,r6,k6⟩:=HP;have HZ6:As (PlAt w6 w5.heap.size ⟨#[]⟩ 0):=⟨(PlAt.new w5.drew ⟨#[]⟩ 0).kp k6 (by have:=HXB.out;simp;omega)⟩;obtain⟨z60,z61⟩:=HZ6.out.cells;have f60:=HZ6.out.free 0;have f61:=HZ6.out.free 1));have HS6:As (w5.heap.size<=w6.heap.size):=⟨by have:=k6.size;simp at this;omega⟩;have HD6:=As.mk h6;have HN6:=As.mk hn6;have HR6:=As.mk r6;have hcv:=conv_str (c:=c6) hn6 (r6 w6 (Kp.refl _ _));have hcva:=fun o=>conv_str (c:=c6) hn6 (r6 (w6.alloc o) ((Kp.refl _ _).alloc _));clear hn6 h6 r6 k6)
      |(go_simp;go_at_call 35;refine(HNUX.out _ (by first|exact HD6.out|exact HD6.out.skip ((Kp.refl [] _).alloc _))).mono ?_;rintro e w7 HP;obtain⟨rfl,h7,k7⟩:=HP;have HD7:=As.mk h7;have k67:Kp [w.heap.size] w6 w7:=(by first|exact k7|exact((Kp.refl [w.heap.size] _).alloc _).trans k7 (fun x hx=> .inl hx));have hcv7:=conv_str (c:=c6) HN6.out (HR6.out w7 k67);have hcva7:=fun o=>conv_str (c:=c6) HN6.out (HR6.out (w7.alloc o) (k67.alloc o));(first|(have HZ7:=As.mk (HZ6.out.kp k7 (by have:=HXB.out;simp;omega));obtain⟨z70,z71⟩:=HZ7.out.cells;have f70:=HZ7.out.free 0;have f71:=HZ7.out.free 1)|(have HZ7:As (PlAt w7 w6.heap.size ⟨#[]⟩ 0):=⟨(PlAt.new w6 ⟨#[]⟩ 0).kp k7 (by have:=HD6.out.ord;simp;omega)⟩;obtain⟨z70,z71⟩:=HZ7.out.cells;have f70:=HZ7.out.free 0;have f71:=HZ7.out.free 1)|skip);clear h7 k7 k67))
     all_goals go_wp2_with fail
     all_goals go_meet
     all_goals first
      |exact⟨_,rfl,⟨HD7.out.made HZ7.out (by have:=HS6.out;have:=HNZ.out;omega) (fun z hz=>by have:=HOB.out z hz;have:=HS6.out;omega) _ _⟩⟩
      |exact⟨_,rfl,⟨HD7.out.laid _ _⟩⟩
    case rest=>
     obtain⟨X,rfl,HQ⟩:=hcut
     obtain⟨e0,e1⟩:=HQ.out.2.1.cells
     have hXlt:X<wc.heap.size:=lt_of_block HQ.out.2.1
     by_cases hkey:1<=p.length/\p.length<=64
     ·have HI:=As.mk (key_any (strOfNums p) wc)
      rw[str_size,decide_eq_true hkey] at HI
      have HNX2:=HNX.out.2
      rw[if_pos hkey] at HNX2
      have HNY:=As.mk (And.intro HNX.out.1 HNX2)
      clear HNX2 HNX hkey
      go_wp2_with (first
       |(go_at_call 79;refine HI.out.mono ?_;rintro e w8 ⟨rfl,rfl⟩;clear HI)
       |(at_builtin;refine refr.appM rfl (.tmp 38) (.tmp 40) rfl (.slice AX k cX) k (mv (mIter k s1).1) rfl (((Kp.refl [] _).alloc _).own HQ.out.1.own (by simp)) w8.heap.size (strOfNums p) y rfl (PlAt.new w8 _ _) (by omega) ?_;intro v9 w9 o9 k9 a9;have h9:=(HQ.out.1.skip ((Kp.refl [] _).alloc _)).put (m:=(strOfNums p,(y:Int))) o9 k9 a9;obtain⟨A9,c9,rfl,_⟩:=own_rd o9;have HD9:=As.mk h9;clear o9 k9 a9 h9))
      go_roundw
      case rel=>exact⟨k+1,c9,A9,by go_num,rfl,by omega,⟨by rw[HNY.out.1,HNY.out.2];exact HD9.out⟩⟩
      case measure=>simp[intOf];omega
     ·have HI:=As.mk (key_any (strOfNums p) wc)
      rw[str_size,decide_eq_false hkey] at HI
      have HNX2:=HNX.out.2
      rw[if_neg hkey] at HNX2
      have HNY:=As.mk (And.intro HNX.out.1 HNX2)
      have HBD:=As.mk (take_bad HQ.out.1)
      clear HNX2 HNX hkey
      go_wp2_with (first
       |(go_at_call 79;refine HI.out.mono ?_;rintro e w8 ⟨rfl,rfl⟩;clear HI)
       |(go_at_call 78;refine HBD.out.mono ?_;rintro e w8' ⟨rfl,h8,k8⟩;have HB8:=As.mk h8;obtain⟨e80,e81⟩:=(HQ.out.2.1.kp k8 (by have:=HQ.out.2.2;simp;omega)).cells;have hX8:X<w8'.heap.size:=(by have:=k8.size;omega);clear h8 k8 HBD)
       |(at_builtin;refine refr.appM rfl (.tmp 38) (.tmp 40) rfl (.slice AX k cX) k (mv (mIter k s1).1) rfl (((Kp.refl [] _).alloc _).own HB8.out.own (by simp)) w8'.heap.size (strOfNums p) y rfl (PlAt.new w8' _ _) (by omega) ?_;intro v9 w9 o9 k9 a9;have h9:=(HB8.out.skip ((Kp.refl [] _).alloc _)).put (m:=(strOfNums p,(y:Int))) o9 k9 a9;obtain⟨A9,c9,rfl,_⟩:=own_rd o9;have HD9:=As.mk h9;clear o9 k9 a9 h9))
      go_roundw
      case rel=>exact⟨k+1,c9,A9,by go_num,rfl,by omega,⟨by rw[HNY.out.1,HNY.out.2];exact HD9.out⟩⟩
      case measure=>simp[intOf];omega
  ·obtain rfl:k=N:=by omega
   have HWH:=As.mk (take_whole HD.out)
   cases hwh:whole (mIter k s1).2 with
   |false=>
    have HZ:As (dMs xs=([],3)):=⟨by rw[HE.out,if_neg];intro h9;rw[h9] at hwh;simp[whole] at hwh⟩
    rw[hwh] at HWH
    clear hwh
    go_wp2_with (go_at_call 37;refine HWH.out.mono ?_;rintro e w6 ⟨rfl,rfl⟩;clear HWH)
    go_ret2
    exact dmsn_none HZ.out HD.out.kp
   |true=>
    have HZ:As (dMs xs=((mIter k s1).1,0)):=⟨by rw[HE.out,if_pos];simpa [whole] using hwh⟩
    rw[hwh] at HWH
    clear hwh
    go_wp2_with (go_at_call 37;refine HWH.out.mono ?_;rintro e w6 ⟨rfl,rfl⟩;clear HWH)
    go_ret2
    exact⟨_,_,AX,k,cX,HZ.out,rfl,mIter_len k s1,HD.out.own,fun g e=>by have:=HD.out.lo g e;omega,HD.out.kp⟩
structure IR(w wr:World)(v:Value)(k:Nat)(l:List Int)(s:Option (List Int)):Prop where
 kp:Kp [] w wr
 own:wr.ownsRow 0 3 1 v k (iv .i64 l)
 lo:∀y,v.ownBlock=some y->w.heap.size+1<=y
 rdr:∃g,Rdr wr w.heap.size g s/\∀y,g=some y->y<w.heap.size+1
theorem IR.lt{w wr:World}{v:Value}{k:Nat}{l:List Int}{s:Option (List Int)}(h:IR w wr v k l s):w.heap.size<wr.heap.size:=by
 obtain⟨g,hr,_⟩:=h.rdr
 exact hr.lt
theorem IR.skip{w wr w1:World}{v:Value}{k:Nat}{l:List Int}{s:Option (List Int)}(h:IR w wr v k l s)(kk:Kp [] wr w1):IR w w1 v k l s:=by
 obtain⟨g,hr,hg⟩:=h.rdr
 exact⟨h.kp.trans kk (by simp),kk.own h.own (by simp),h.lo,⟨g,hr.kp kk (by simp) (by simp),hg⟩⟩
theorem IR.took{w wr w1:World}{v:Value}{k:Nat}{l:List Int}{s s':Option (List Int)}{g g':Option Nat}(h:IR w wr v k l s)(hg:∀y,g=some y->y<w.heap.size+1)(R:Rdr w1 w.heap.size g' s')(G:g'=g\/g'=none)(kk:Kp [w.heap.size] wr w1):IR w w1 v k l s':=
 ⟨h.kp.trans kk (by intro x hx;simp at hx;omega),kk.own h.own (fun y hy=>by have:=h.lo y hy;simp;omega),h.lo,⟨g',R,fun y hy=>by rcases G with e|e;exact hg y (by rw[<-e];exact hy);rw[e] at hy;cases hy⟩⟩
theorem IR.put{w wr w2:World}{v v':Value}{k:Nat}{l:List Int}{s:Option (List Int)}{y:Int}(h:IR w wr v k l s)(o:w2.ownsRow 0 3 1 v' (k+1) (iv .i64 l++[.int .i64 y]))(kk:Kp v.ownBlock.toList wr w2)(a:At wr.heap.size v.ownBlock v'.ownBlock):IR w w2 v' (k+1) (l++[y]) s:=by
 obtain⟨g,hr,hg⟩:=h.rdr
 have hl:=h.lt
 have hS:∀i,i<w.heap.size+1->i∉v.ownBlock.toList:=fun i hi hm=>by have:=h.lo i (by simpa using hm);omega
 exact⟨h.kp.row kk (fun z hz=> .inr (by have:=h.lo z hz;omega)),by rw[iv_app];exact o,a.ge (by omega) h.lo,⟨g,hr.kp kk (hS _ (by omega)) (fun z hz=>hS z (hg z hz)),hg⟩⟩
theorem IR.box{w:World}{A:Option Addr}{n c:Nat}{xs:List Int}(hn:xs.length=n)(hr:Rd w A (iv .u8 xs))(hc:n<=c)(hc9:c<=9223372036854775807)(hnil:A=none->c=0)(hA:∀a,A=some a->a.block<w.heap.size)(hw:Wf xs):
 IR w (w.alloc (.cells #[.slice A n c,.bool false] 106)) (.slice none 0 0) 0 [] (some xs):=
 ⟨(MR.box hn hr hc hc9 hnil hA hw).kp,World.ownsRow_nil _ 0 _ 1,by simp[Value.ownBlock],(MR.box hn hr hc hc9 hnil hA hw).rdr⟩
theorem IR.err{w wr:World}{v:Value}{k:Nat}{l:List Int}{s:Option (List Int)}(h:IR w wr v k l s):wr.cell? ⟨w.heap.size,1,none⟩=some (.bool s.isNone):=by
 obtain⟨g,⟨A,c,h1,_⟩,_⟩:=h.rdr
 exact bkc h1 1 rfl
theorem IR.num{w wr:World}{v:Value}{k:Nat}{l:List Int}{s s4:Option (List Int)}{y:Nat}(h:IR w wr v k l s)(hl:(left s).length<=140737488351232)(hs:stNum s=(y,s4)):
 Calls Tryz.prog 35 #[.pointer (some ⟨w.heap.size,0,none⟩)] wr fun e w5=>e= .returned (.int .i64 (y:Int))/\IR w w5 v k l s4:=by
 obtain⟨g,R,hg⟩:=h.rdr
 refine(num_any _ g s wr R hl).mono ?_
 rw[hs]
 rintro e w5 ⟨rfl,g5,R5,G5,K5⟩
 exact⟨rfl,h.took hg R5 G5 K5⟩
theorem IR.whole{w wr:World}{v:Value}{k:Nat}{l:List Int}{s:Option (List Int)}(h:IR w wr v k l s):
 Calls Tryz.prog 37 #[.pointer (some ⟨w.heap.size,0,none⟩)] wr fun e w5=>e= .returned (.bool (refr.whole s))/\w5=wr:=by
 obtain⟨g,R,hg⟩:=h.rdr
 exact whole_any _ g s wr R
theorem IR.first{w:World}{A:Option Addr}{n c N:Nat}{xs:List Int}{s1:Option (List Int)}(hn:xs.length=n)(hr:Rd w A (iv .u8 xs))(hc:n<=c)(hc9:c<=9223372036854775807)(hnil:A=none->c=0)(hA:(∀a,A=some a->a.block<w.heap.size)\/n=0)(hw:Wf xs)(hl:(left (some xs)).length<=140737488351232)(h0:stNum (some xs)=(N,s1)):
 Calls Tryz.prog 35 #[.pointer (some ⟨w.heap.size,0,none⟩)] (w.alloc (.cells #[.slice A n c,.bool false] 106)) fun e w5=>e= .returned (.int .i64 (N:Int))/\IR w w5 (.slice none 0 0) 0 [] s1:=by
 rcases hA with hA|rfl
 ·exact(IR.box hn hr hc hc9 hnil hA hw).num hl h0
 ·obtain rfl:xs=[]:=List.eq_nil_of_length_eq_zero hn
  have e0:stNum (some [])=(0,none):=rfl
  rw[e0] at h0
  cases h0
  refine(num_empty (A:=A) (c:=c) (b:=w.heap.size) (heap_alloc_new w _)).mono ?_
  rintro e w5 ⟨rfl,R5,K5⟩
  exact⟨rfl,⟨((Kp.refl [] w).alloc _).trans K5 (by simp),World.ownsRow_nil _ 0 _ 1,by simp[Value.ownBlock],⟨none,R5,by simp⟩⟩⟩
def DRep(xs:List Int)(w:World)(e:Ending)(w':World):Prop:=
 ∃(er:Int) (l:List Int) (z:Int) (A:Option Addr) (n c:Nat),dRep xs=(er,l,z)/\e= .returned (.tuple #[.int .i64 er,.slice A n c,.int .i64 z])/\l.length=n/\Rd w' A (iv .i64 l)/\n<=c/\(A=none->c=0)/\Kp [] w w'
theorem drep_none{xs:List Int}{w w':World}(h:dRep xs=(0,[],3))(k:Kp [] w w'):DRep xs w (.returned (.tuple #[.int .i64 0,.slice none 0 0,.int .i64 3])) w':=
 ⟨0,[],3,none,0,0,h,rfl,rfl,Rd.nil _ _,Nat.le_refl _,fun _=>rfl,k⟩
theorem decRep_any(A:Option Addr)(n c:Nat)(xs:List Int)(w:World)(hn:xs.length=n)(hr:Rd w A (iv .u8 xs))(hc:n<=c)(hc9:c<=9223372036854775807)(hnil:A=none->c=0)(hA:(∀a,A=some a->a.block<w.heap.size)\/n=0)(hw:Wf xs)(hm:n<=1000000):
 Calls Tryz.prog 130 #[.slice A n c] w (DRep xs w):=by
 obtain⟨n0,s1,h0⟩:∃a b,stNum (some xs)=(a,b):=⟨_,_,rfl⟩
 obtain⟨n1,s2,h1⟩:∃a b,stNum s1=(a,b):=⟨_,_,rfl⟩
 have HE:As (dRep xs=if n0<=100/\n1<=8/\(stNums n1 s2).2=some [] then((n0:Int),(stNums n1 s2).1,0) else(0,[],3)):=⟨by simp only[dRep,h0,h1]⟩
 have hl0:(left (some xs)).length<=140737488351232:=by simp[left];omega
 have hl1:(left s1).length<=140737488351232:=by
  have q1:=refr.left_le hl0
  rwa[h0] at q1
 have hl2:(left s2).length<=140737488351232:=by
  have q1:=refr.left_le hl1
  rwa[h1] at q1
 have HN0:=As.mk (IR.first hn hr hc hc9 hnil hA hw hl0 h0)
 have HN1:As (∀wX,IR w wX (.slice none 0 0) 0 [] s1->Calls Tryz.prog 35 #[.pointer (some ⟨w.heap.size,0,none⟩)] wX fun e w5=>e= .returned (.int .i64 (n1:Int))/\IR w w5 (.slice none 0 0) 0 [] s2):=⟨fun wX h=>h.num hl1 h1⟩
 have HL2:=As.mk hl2
 clear h0 h1 hl0 hl1 hl2 hn hr hc hc9 hnil hA hw
 go_enter Tryz.func130,Tryz.ntmps130
 go_wp2_with (first
  |(go_at_call 35;refine(HN1.out _ HB1.out).mono ?_;rintro e w3 ⟨rfl,h3⟩;have HB3:=As.mk h3;clear h3 HN1 HB1)
  |(go_at_call 35;refine HN0.out.mono ?_;rintro e w2 ⟨rfl,h2⟩;have HB1:=As.mk h2;clear h2 HN0))
 go_loopw [8,9] (fun v i wr=>∃(k cX:Nat) (AX:Option Addr),i= .int .i64 (k:Int)/\v= .slice AX k cX/\k<=n1/\k<=9/\As (IR w wr (.slice AX k cX) k (stNums k s2).1 (stNums k s2).2)) (fun _ i _=>n1-(intOf i).toNat)
 case atStart=>exact⟨0,0,none,rfl,rfl,by omega,by omega,HB3⟩
 case round=>
  obtain⟨k,cX,AX,rfl,rfl,hk,hk9,HD⟩:=hrel
  by_cases hlt:k<n1
  ·by_cases h9:k<9
   ·have dE:=HD.out.err
    cases hst:(stNums k s2).2 with
    |none=>
     rw[hst] at dE HD
     have HWH:=As.mk HD.out.whole
     have HZ:As (dRep xs=(0,[],3)):=⟨by rw[HE.out,stNums_stay hst (by omega),if_neg (by simp)]⟩
     clear hst
     go_wp2_with (go_at_call 37;refine HWH.out.mono ?_;rintro e w6 ⟨rfl,rfl⟩;clear HWH)
     go_ret3
     exact drep_none HZ.out HD.out.kp
    |some rest=>
     rw[hst] at dE HD
     obtain⟨y,st',hy⟩:∃a b,stNum (some rest)=(a,b):=⟨_,_,rfl⟩
     have HNM:=As.mk (HD.out.num (by have:=reader.stNums_left (k:=k) HL2.out;rwa[hst] at this) hy)
     have HNX:As ((stNums (k+1) s2).1=(stNums k s2).1++[(y:Int)]/\(stNums (k+1) s2).2=st'):=⟨by rw[reader.stNums_snoc,hst,hy];exact⟨rfl,rfl⟩⟩
     clear hst hy
     go_wp2_with (first
      |(go_at_call 35;refine HNM.out.mono ?_;rintro e w6 ⟨rfl,h6⟩;have HD6:=As.mk h6;clear h6 HNM)
      |(at_builtin;refine app64 rfl (.tmp 33) (.tmp 36) rfl (.slice AX k cX) k (iv .i64 (stNums k s2).1) rfl (((Kp.refl [] _).alloc _).own HD6.out.own (by simp)) (some ⟨w6.heap.size,0,none⟩) 1 1 [.int .i64 (y:Int)] rfl rfl (rd_new w6 [.int .i64 (y:Int)] _) (by simp) (by simp[Value.oneCell']) (by omega) ?_;intro v9 w9 o9 k9 a9;have h9:=(HD6.out.skip ((Kp.refl [] _).alloc _)).put (y:=(y:Int)) o9 k9 a9;obtain⟨A9,c9,rfl,_⟩:=own_rd o9;have HD9:=As.mk h9;clear o9 k9 a9 h9))
     go_roundw
     case rel=>exact⟨k+1,c9,A9,by go_num,rfl,by omega,by omega,⟨by rw[HNX.out.1,HNX.out.2];exact HD9.out⟩⟩
     case measure=>simp[intOf];omega
   ·obtain rfl:k=9:=by omega
    have hn8:8<n1:=by omega
    have HZ:As (dRep xs=(0,[],3)):=⟨by rw[HE.out,if_neg (by omega)]⟩
    have HWH:=As.mk HD.out.whole
    cases hwh:refr.whole (stNums 9 s2).2 with
    |false=>
     rw[hwh] at HWH
     clear hwh
     go_wp2_with (go_at_call 37;refine HWH.out.mono ?_;rintro e w6 ⟨rfl,rfl⟩;clear HWH)
     go_ret3
     exact drep_none HZ.out HD.out.kp
    |true=>
     rw[hwh] at HWH
     clear hwh
     by_cases h100:100<n0
     ·go_wp2_with (go_at_call 37;refine HWH.out.mono ?_;rintro e w6 ⟨rfl,rfl⟩;clear HWH)
      go_ret3
      exact drep_none HZ.out HD.out.kp
     ·go_wp2_with (go_at_call 37;refine HWH.out.mono ?_;rintro e w6 ⟨rfl,rfl⟩;clear HWH)
      go_ret3
      exact drep_none HZ.out HD.out.kp
  ·obtain rfl:k=n1:=by omega
   have HWH:=As.mk HD.out.whole
   cases hwh:refr.whole (stNums k s2).2 with
   |false=>
    have HZ:As (dRep xs=(0,[],3)):=⟨by rw[HE.out,if_neg];intro h9;rw[h9.2.2] at hwh;simp[refr.whole] at hwh⟩
    rw[hwh] at HWH
    clear hwh
    go_wp2_with (go_at_call 37;refine HWH.out.mono ?_;rintro e w6 ⟨rfl,rfl⟩;clear HWH)
    go_ret3
    exact drep_none HZ.out HD.out.kp
   |true=>
    by_cases h100:100<n0
    ·have HZ:As (dRep xs=(0,[],3)):=⟨by rw[HE.out,if_neg (by omega)]⟩
     rw[hwh] at HWH
     clear hwh
     go_wp2_with (go_at_call 37;refine HWH.out.mono ?_;rintro e w6 ⟨rfl,rfl⟩;clear HWH)
     go_ret3
     exact drep_none HZ.out HD.out.kp
    ·by_cases h8:8<k
     ·have HZ:As (dRep xs=(0,[],3)):=⟨by rw[HE.out,if_neg (by omega)]⟩
      rw[hwh] at HWH
      clear hwh
      go_wp2_with (go_at_call 37;refine HWH.out.mono ?_;rintro e w6 ⟨rfl,rfl⟩;clear HWH)
      go_ret3
      exact drep_none HZ.out HD.out.kp
     ·have HZ:As (dRep xs=((n0:Int),(stNums k s2).1,0)):=⟨by rw[HE.out,if_pos ⟨by omega,by omega,by simpa [refr.whole] using hwh⟩]⟩
      rw[hwh] at HWH
      clear hwh
      go_wp2_with (go_at_call 37;refine HWH.out.mono ?_;rintro e w6 ⟨rfl,rfl⟩;clear HWH)
      go_ret3
      obtain⟨A9,c9,h9,hc9,_,r9,n9⟩:=own_rd HD.out.own
      cases h9
      exact⟨_,_,_,AX,k,cX,HZ.out,rfl,reader.stNums_len k s2,r9,hc9,n9,HD.out.kp⟩
end Go.Proofs.YtdiljpdohmeceaaGreat.ref13
