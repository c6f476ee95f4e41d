/- Words and walks that this claim rests on: proved lemmas alone. -/
import Derived.Test.YtdiljpdohmeceaaGreatZ20
import Derived.Sort.LotA
import Derived.Shelf.SlSortCmp.KitK
import Derived.Sort.WalkB2
import Derived.Sort.WalkB12
import Derived.Outline
set_option maxHeartbeats 16000000
set_option maxRecDepth 100000
namespace Go.Proofs.YtdiljpdohmeceaaGreat.co
open Go.RowKit H O opk frame wir
theorem dMs_form(xs:List Int):(dMs xs).2=0\/dMs xs=([],3):=by
 obtain⟨n,s1,h⟩:∃a b,stNum (some xs)=(a,b):=⟨_,_,rfl⟩
 rw[dMs_eq h]
 split
 ·exact .inl rfl
 ·exact .inr rfl
theorem dMs_len(xs:List Int):(dMs xs).1.length<=xs.length:=by
 obtain⟨n,s1,h⟩:∃a b,stNum (some xs)=(a,b):=⟨_,_,rfl⟩
 rw[dMs_eq h]
 split
 ·rename_i h2
  have:=mIter_count h2
  have h3:=reader.left_le (s:=some xs) (m:=xs.length) (by simp[left])
  rw[h] at h3
  simp only at h3
  simp only[List.length_nil] at this
  rw[mIter_len]
  omega
 ·simp
theorem takes_find(p0 m:Nat)(MV:Value)(l:List (ByteArray×Int))(ok:Int)(cid:Nat)(key:ByteArray)(c11 c12 c13:Value)(A:Option Addr)(n c:Nat)(data:List Int)(w:World)
 (hp:w.heap[p0]?=some (jobRun m false false (.slice none 0 0) MV 2 ok cid key c11 c12 c13)) (ho:w.ownsRow 0 73 2 MV l.length (mv l)) (hg:∀g,MV.ownBlock=some g->g≠p0) (hl9:l.length<=1000000)
 (hn:data.length=n) (hr:Rd w A (iv .u8 data)) (hnil:A=none->c=0) (hw:Wf data) (hm:n<=50000):
 Calls Tryz.prog 49 #[.pointer (some ⟨p0,0,none⟩),.slice A n c] w (TkP p0 m MV l 2 ok cid key c11 c12 c13 (tookF data) w):=by
 have hpl:=lt_of_block hp
 obtain⟨l',z,hd⟩:∃a b,dMs data=(a,b):=⟨_,_,rfl⟩
 obtain⟨n1,hn1⟩:∃k,l'.length=k:=⟨_,rfl⟩
 have hn9:n1<=50000:=by have:=dMs_len data;rw[hd] at this;simp only at this;omega
 have H1:As (Calls Tryz.prog 91 #[.slice A n c] w fun e w'=>∃A1 c1,e= .returned (.tuple #[.slice A1 n1 c1,.int .i64 z])/\As (Rd w' A1 (mv l')/\(A1=none->c1=0)/\Kp [] w w')):=⟨by
  refine(readMs_any A n c data w hn hr hnil hw hm).mono ?_
  rintro e w' ⟨l2,z2,A1,n2,c1,hd2,rfl,h1,h2,h3,h4,h5⟩
  rw[hd] at hd2
  cases hd2
  rw[hn1] at h1
  subst h1
  exact⟨A1,c1,rfl,⟨h2,h4,h5⟩⟩⟩
 have HT:As ((tookF data).err=z/\((tookF data).err=0->tookF data=⟨false,false,[],l',0⟩)):=⟨by
  rw[tookF,hd]
  rcases dMs_form data with h|h
  ·rw[hd] at h
   simp only at h
   subst h
   exact⟨rfl,fun _=>rfl⟩
  ·rw[hd] at h
   cases h
   exact⟨rfl,fun e=>by cases e⟩⟩
 obtain⟨AM,cM,rfl,hM1,hM2,_,hM4⟩:=own_rd ho
 obtain⟨N,hN⟩:∃k,l.length=k:=⟨_,rfl⟩
 rw[hN] at hp ho hl9 hM1 hg
 rw[hN]
 have HN:=As.mk (And.intro hN hn1)
 have HFIN:As (∀(w1 w2:World) (A1:Option Addr) (c1:Nat) (v:Value),Kp [] w w1->w2.ownsRow 0 73 2 v (N+n1) (mv l++mv l')->Kp (Value.slice AM N cM).ownBlock.toList w1 w2->At w1.heap.size (Value.slice AM N cM).ownBlock v.ownBlock->
  w2.cell? ⟨p0,5,none⟩=some (.slice AM N cM)/\w2.frozen? ⟨p0,5,none⟩=false/\As (TkP p0 m (.slice AM N cM) l 2 ok cid key c11 c12 c13 (tookF data) w (.returned (.int .i64 z)) (w2.setCell ⟨p0,5,none⟩ v))):=⟨fun w1 w2 A1 c1 v k1 o2 k2 a2=>by
  have hnp:p0∉(Value.slice AM N cM).ownBlock.toList:=fun e=>(hg p0 (by simpa using e)) rfl
  have b2:=k2.blk (k1.blk hp (by simp)) hnp
  have kS:Kp [p0] w2 (w2.setCell ⟨p0,5,none⟩ v):=(Kp.refl _ w2).setCell (.inl (by simp)) _
  have hv:∀g,v.ownBlock=some g->g∉[p0]:=fun g e hm=>by
   simp only[List.mem_singleton] at hm
   subst hm
   rcases a2 with e2|⟨k,e2,hk⟩
   ·exact hg _ (by rw[<-e2];exact e) rfl
   ·rw[e2] at e
    cases e
    have:=k1.size
    omega
  refine⟨bkc b2 5 rfl,blk_free b2 5,⟨false,false,.slice none 0 0,v,[],l',by rw[HT.out.1],heap_setCell_same w2 p0 5 _ _ v b2,Own.nil _ _ _ _, ?_,a2.low k1.size, ?_,fun e=> ?_,fun _=>⟨rfl,rfl,rfl⟩⟩⟩
  ·rw[List.length_append,HN.out.1,HN.out.2,mv_app]
   exact kS.own o2 hv
  ·refine((k1.mono (T:=p0::(Value.slice AM N cM).ownBlock.toList) (by simp)).trans k2 (fun x hx=> .inl (by simp at hx;simp[hx]))).trans kS (fun x hx=> .inl (by simp at hx;simp[hx]))
  ·rw[HT.out.2 e]
   exact⟨rfl,rfl,rfl,rfl⟩⟩
 have HOW:As (∀w1,Kp [] w w1->w1.ownsRow 0 73 2 (.slice AM N cM) N (mv l)):=⟨fun w1 k=>k.own ho (by simp)⟩
 have HML:As ((mv l').length=n1*2/\(∀u∈mv l',u.oneCell'=true)):=⟨by rw[mv_len,hn1],mv_one l'⟩
 have a6:=bkc hp 6 rfl
 clear hn hr hnil hw hm ho hg hd hN hn1 hM1 hM2 hM4
 unfold jobRun at hp
 go_enter Tryz.func49,Tryz.ntmps49
 go_wp2_with (first
  |(go_at_call 91;refine H1.out.mono ?_;rintro e w1 ⟨A1,c1,rfl,HD⟩;have b6:=HD.out.2.2.blk hp (by simp);have a5:=bkc b6 5 rfl;clear H1 b6)
  |(at_builtin;refine wpList_app rfl (.tmp 94) (.tmp 95) 59 rfl 73 (.agg #[.string ⟨#[]⟩,.int .i64 0]) 2 24 Tryz.underlying59 reader.info_match (by kernel_rfl) (by decide) (.slice AM N cM) N (mv l) rfl (HOW.out w1 HD.out.2.2) A1 n1 c1 (mv l') rfl HML.out.1 HD.out.1 HD.out.2.1 HML.out.2 (by omega) (by omega) ?_;intro v2 w2 o2 k2 a2 _;obtain⟨A2,c2,rfl,_⟩:=own_rd o2;obtain⟨y5,z5,HZ⟩:=HFIN.out w1 w2 A1 c1 _ HD.out.2.2 o2 k2 a2;clear o2 k2 a2))
 go_ret
 exact HZ.out
theorem takes_any(j:Job)(hj:JobOk j)(p0 m:Nat)(MV:Value)(l:List (ByteArray×Int))(cid:Nat)(key:ByteArray)(c11 c12 c13:Value)(A:Option Addr)(n c:Nat)(data:List Int)(w:World)
 (hp:w.heap[p0]?=some (jobRun m false false (.slice none 0 0) MV (wkind j) (okind j) cid key c11 c12 c13)) (ho:w.ownsRow 0 73 2 MV l.length (mv l)) (hg:∀g,MV.ownBlock=some g->g≠p0) (hl9:l.length<=1000000)
 (hn:data.length=n) (hr:Rd w A (iv .u8 data)) (hnil:A=none->c=0) (hw:Wf data) (hm:n<=50000):
 Calls Tryz.prog 49 #[.pointer (some ⟨p0,0,none⟩),.slice A n c] w (TkP p0 m MV l (wkind j) (okind j) cid key c11 c12 c13 (took j data) w):=by
 have hk:=hj.kind
 rcases (by omega:j.kind=1\/j.kind=2\/j.kind=3\/j.kind=4) with e|e|e|e
 ·have e1:wkind j=1:=by simp[wkind,e]
  have e2:okind j=1:=by simp[okind,e]
  have e3:took j data=tookW (decide ((1:Int)=2)) data:=by simp[took,e]
  rw[e1,e2,e3]
  rw[e1,e2] at hp
  exact takes_write p0 m MV l 1 cid key c11 c12 c13 A n c data w hp ho hg hn hr hnil hw hm
 ·have e1:wkind j=1:=by simp[wkind,e]
  have e2:okind j=2:=by simp[okind,e]
  have e3:took j data=tookW (decide ((2:Int)=2)) data:=by simp[took,e]
  rw[e1,e2,e3]
  rw[e1,e2] at hp
  exact takes_write p0 m MV l 2 cid key c11 c12 c13 A n c data w hp ho hg hn hr hnil hw hm
 ·have e1:wkind j=3:=by simp[wkind,e]
  have e3:took j data=tookG data:=by simp[took,e]
  rw[e1,e3]
  rw[e1] at hp
  exact takes_get p0 m MV l _ cid key c11 c12 c13 A n c data w hp ho hg hn hr hnil hw hm
 ·have e1:wkind j=2:=by simp[wkind,e]
  have e3:took j data=tookF data:=by simp[took,e]
  rw[e1,e3]
  rw[e1] at hp
  exact takes_find p0 m MV l _ cid key c11 c12 c13 A n c data w hp ho hg hl9 hn hr hnil hw hm
def IdxR(pr:Nat->Bool)(n:Nat)(r:Int):Prop:=(∃i:Nat,i<n/\pr i=true/\(∀k,k<i->pr k=false)/\r=(i:Int))\/((∀k,k<n->pr k=false)/\r= -1)
theorem IdxR.hit{pr:Nat->Bool}{n k:Nat}{r:Int}(h:IdxR pr n r)(hk:k<n)(h1:pr k=true)(h2:∀j,j<k->pr j=false):r=(k:Int):=by
 rcases h with⟨i,a1,a2,a3,rfl⟩|⟨a,_⟩
 ·rcases Nat.lt_trichotomy i k with e|e|e
  ·rw[h2 i e] at a2;cases a2
  ·rw[e]
  ·rw[a3 k e] at h1;cases h1
 ·rw[a k hk] at h1;cases h1
theorem IdxR.miss{pr:Nat->Bool}{n:Nat}{r:Int}(h:IdxR pr n r)(h2:∀j,j<n->pr j=false):r= -1:=by
 rcases h with⟨i,a1,a2,a3,rfl⟩|⟨_,a⟩
 ·rw[h2 i a1] at a2;cases a2
 ·exact a
theorem index1_any(rb:Nat)(gA n c:Nat)(ps:List Nat)(pr:Nat->Bool)(r:Int)(w:World)(hl:ps.length=n)(hn9:n<=1000000)
 (hc:∀i p,ps[i]?=some p->w.cell? ⟨gA,i,none⟩=some (ptr p)) (hf:∀i p q,ps[i]?=some p->Calls Tryz.prog 46 #[ptr p,.pointer (some ⟨rb,0,none⟩)] (w.drewN q) fun e w'=>e= .returned (.bool (pr i))/\∃q',w'=w.drewN q') (hr:IdxR pr n r):
 Calls Tryz.prog 45 #[.slice (some ⟨gA,0,none⟩) n c,.func (.func 46) #[] #[.pointer (some ⟨rb,0,none⟩)]] w fun e w'=>e= .returned (.int .i64 r)/\∃q,w'=w.drewN q:=by
 have HC:=As.mk hc
 have HF:=As.mk hf
 have HR:=As.mk hr
 have HL:=As.mk hl
 clear hc hf hr hl
 go_enter Tryz.func45,Tryz.ntmps45
 go_wp2
 go_loopw [8] (fun i wr=>∃(k q:Nat),i= .int .i64 (k:Int)/\k<=n/\As (wr=w.drewN q/\∀j,j<k->pr j=false)) (fun i _=>n-(intOf i).toNat)
 case atStart=>exact⟨0,0,rfl,by omega,⟨rfl,fun j hj=>by omega⟩⟩
 case round=>
  obtain⟨k,q,rfl,hk,HI⟩:=hrel
  by_cases hlt:k<n
  ·have i1:(k:Int)<(n:Int):=by omega
   obtain⟨p,hp⟩:∃p,ps[k]?=some p:=⟨_,List.getElem?_eq_getElem (by rw[HL.out];exact hlt)⟩
   obtain⟨b,hb⟩:∃b,pr k=b:=⟨_,rfl⟩
   have c0:wr.cell? ⟨gA,k,none⟩=some (ptr p):=by rw[HI.out.1];exact HC.out k p hp
   unfold ptr at c0
   have HP:=As.mk hb
   have H1:As (Calls Tryz.prog 46 #[.pointer (some ⟨p,0,none⟩),.pointer (some ⟨rb,0,none⟩)] wr fun e w'=>e= .returned (.bool b)/\∃q',w'=w.drewN q'):=⟨by
    rw[<-hb,HI.out.1]
    exact HF.out k p q hp⟩
   clear hp hb
   cases b
   ·go_wp2_with (go_at_call 46;refine H1.out.mono ?_;rintro e w1 ⟨rfl,q1,hq1⟩;have HQ:=As.mk hq1;clear hq1 H1 c0)
    go_roundw
    case rel=>exact⟨k+1,q1,by go_num,by omega,⟨HQ.out,fun j hj=>by
     by_cases e:j=k
     ·rw[e];exact HP.out
     ·exact HI.out.2 j (by omega)⟩⟩
    case measure=>simp[intOf];omega
   ·have HE:=As.mk (HR.out.hit hlt HP.out HI.out.2)
    go_wp2_with (go_at_call 46;refine H1.out.mono ?_;rintro e w1 ⟨rfl,q1,hq1⟩;have HQ:=As.mk hq1;clear hq1 H1 c0)
    go_ret
    exact⟨by rw[HE.out];rfl,q1,HQ.out⟩
  ·have i1:¬(k:Int)<(n:Int):=by omega
   have HE:=As.mk (HR.out.miss (fun j hj=>HI.out.2 j (by omega)))
   go_wp2
   go_ret
   exact⟨by rw[HE.out];rfl,q,HI.out.1⟩
theorem index2_any(gA n c:Nat)(ps:List Nat)(pr:Nat->Bool)(r:Int)(w:World)(hl:ps.length=n)(hn9:n<=1000000)
 (hc:∀i p,ps[i]?=some p->w.cell? ⟨gA,i,none⟩=some (ptr p)) (hf:∀i p q,ps[i]?=some p->Calls Tryz.prog 51 #[ptr p] (w.drewN q) fun e w'=>e= .returned (.bool (pr i))/\∃q',w'=w.drewN q') (hr:IdxR pr n r):
 Calls Tryz.prog 45 #[.slice (some ⟨gA,0,none⟩) n c,.func (.func 51) #[] #[]] w fun e w'=>e= .returned (.int .i64 r)/\∃q,w'=w.drewN q:=by
 have HC:=As.mk hc
 have HF:=As.mk hf
 have HR:=As.mk hr
 have HL:=As.mk hl
 clear hc hf hr hl
 go_enter Tryz.func45,Tryz.ntmps45
 go_wp2
 go_loopw [8] (fun i wr=>∃(k q:Nat),i= .int .i64 (k:Int)/\k<=n/\As (wr=w.drewN q/\∀j,j<k->pr j=false)) (fun i _=>n-(intOf i).toNat)
 case atStart=>exact⟨0,0,rfl,by omega,⟨rfl,fun j hj=>by omega⟩⟩
 case round=>
  obtain⟨k,q,rfl,hk,HI⟩:=hrel
  by_cases hlt:k<n
  ·have i1:(k:Int)<(n:Int):=by omega
   obtain⟨p,hp⟩:∃p,ps[k]?=some p:=⟨_,List.getElem?_eq_getElem (by rw[HL.out];exact hlt)⟩
   obtain⟨b,hb⟩:∃b,pr k=b:=⟨_,rfl⟩
   have c0:wr.cell? ⟨gA,k,none⟩=some (ptr p):=by rw[HI.out.1];exact HC.out k p hp
   unfold ptr at c0
   have HP:=As.mk hb
   have H1:As (Calls Tryz.prog 51 #[.pointer (some ⟨p,0,none⟩)] wr fun e w'=>e= .returned (.bool b)/\∃q',w'=w.drewN q'):=⟨by
    rw[<-hb,HI.out.1]
    exact HF.out k p q hp⟩
   clear hp hb
   cases b
   ·go_wp2_with (go_at_call 51;refine H1.out.mono ?_;rintro e w1 ⟨rfl,q1,hq1⟩;have HQ:=As.mk hq1;clear hq1 H1 c0)
    go_roundw
    case rel=>exact⟨k+1,q1,by go_num,by omega,⟨HQ.out,fun j hj=>by
     by_cases e:j=k
     ·rw[e];exact HP.out
     ·exact HI.out.2 j (by omega)⟩⟩
    case measure=>simp[intOf];omega
   ·have HE:=As.mk (HR.out.hit hlt HP.out HI.out.2)
    go_wp2_with (go_at_call 51;refine H1.out.mono ?_;rintro e w1 ⟨rfl,q1,hq1⟩;have HQ:=As.mk hq1;clear hq1 H1 c0)
    go_ret
    exact⟨by rw[HE.out];rfl,q1,HQ.out⟩
  ·have i1:¬(k:Int)<(n:Int):=by omega
   have HE:=As.mk (HR.out.miss (fun j hj=>HI.out.2 j (by omega)))
   go_wp2
   go_ret
   exact⟨by rw[HE.out];rfl,q,HI.out.1⟩
theorem contains2_any(gA n c:Nat)(ps:List Nat)(pr:Nat->Bool)(b:Bool)(w:World)(hl:ps.length=n)(hn9:n<=1000000)
 (hc:∀i p,ps[i]?=some p->w.cell? ⟨gA,i,none⟩=some (ptr p)) (hf:∀i p q,ps[i]?=some p->Calls Tryz.prog 51 #[ptr p] (w.drewN q) fun e w'=>e= .returned (.bool (pr i))/\∃q',w'=w.drewN q') (hb:b=true↔∃i,i<n/\pr i=true):
 Calls Tryz.prog 50 #[.slice (some ⟨gA,0,none⟩) n c,.func (.func 51) #[] #[]] w fun e w'=>e= .returned (.bool b)/\∃q,w'=w.drewN q:=by
 obtain⟨r,hr,hrb⟩:∃r,IdxR pr n r/\((b=true/\0<=r)\/(b=false/\r= -1)):=by
  cases b with
  |true=>
   obtain⟨i,hi,hp⟩:=hb.1 rfl
   have:∃k,k<n/\pr k=true/\∀j,j<k->pr j=false:=by
    induction i using Nat.strongRecOn with
    |_ i ih=>
     by_cases h:∃j,j<i/\pr j=true
     ·obtain⟨j,h1,h2⟩:=h
      exact ih j h1 (by omega) h2
     ·exact⟨i,hi,hp,fun j hj=>by
       cases e:pr j with
       |false=>rfl
       |true=>exact absurd ⟨j,hj,e⟩ h⟩
   obtain⟨k,h1,h2,h3⟩:=this
   exact⟨k,.inl ⟨k,h1,h2,h3,rfl⟩,.inl ⟨rfl,by omega⟩⟩
  |false=>
   refine⟨-1,.inr ⟨fun k hk=> ?_,rfl⟩,.inr ⟨rfl,rfl⟩⟩
   cases e:pr k with
   |false=>rfl
   |true=>have:=hb.2 ⟨k,hk,e⟩;cases this
 have H1:=As.mk (index2_any gA n c ps pr r w hl hn9 hc hf hr)
 have HB:=As.mk hrb
 clear hl hc hf hb hr hrb
 rcases HB.out with⟨rfl,h0⟩|⟨rfl,rfl⟩
 ·have d:decide (r≥0)=true:=by simpa using h0
  have d2:decide (0<=r)=true:=by simpa using h0
  go_enter Tryz.func50,Tryz.ntmps50
  go_wp2_with (go_at_call 45;refine H1.out.mono ?_;rintro e w1 ⟨rfl,q,hq⟩;have HQ:=As.mk hq;clear hq H1)
  go_ret
  exact⟨rfl,q,HQ.out⟩
 ·go_enter Tryz.func50,Tryz.ntmps50
  go_wp2_with (go_at_call 45;refine H1.out.mono ?_;rintro e w1 ⟨rfl,q,hq⟩;have HQ:=As.mk hq;clear hq H1)
  go_ret
  exact⟨rfl,q,HQ.out⟩
theorem index_any(A:Option Addr)(n c:Nat)(xs:List Int)(x r:Int)(w:World)(hl:xs.length=n)(hn9:n<=1000000)(hrd:Rd w A (iv .i64 xs))(hr:IdxR (fun i=>decide (x=xs.getD i 0)) n r):
 Calls Tryz.prog 47 #[.slice A n c,.int .i64 x] w fun e w'=>e= .returned (.int .i64 r)/\w'=w:=by
 have HC:=As.mk hrd
 have HR:=As.mk hr
 have HL:=As.mk hl
 clear hrd hr hl
 go_enter Tryz.func47,Tryz.ntmps47
 go_wp2
 go_loop [8] (fun i=>∃(k:Nat),i= .int .i64 (k:Int)/\k<=n/\As (∀j,j<k->decide (x=xs.getD j 0)=false)) (fun i=>n-(intOf i).toNat)
 case atStart=>exact⟨0,rfl,by omega,⟨fun j hj=>by omega⟩⟩
 case round=>
  obtain⟨k,rfl,hk,HI⟩:=hrel
  by_cases hlt:k<n
  ·have i1:(k:Int)<(n:Int):=by omega
   have hx:k<xs.length:=by rw[HL.out];exact hlt
   obtain⟨b,o,rfl,c0⟩:=int_at HC.out k hx
   obtain⟨y,hy⟩:∃y,xs[k]=y:=⟨_,rfl⟩
   have HY:As (xs.getD k 0=y):=⟨by rw[<-hy];simp[List.getD,hx]⟩
   rw[hy] at c0
   clear hy hx
   by_cases e:x=y
   ·subst e
    have HE:=As.mk (HR.out.hit hlt (by rw[HY.out];simp) HI.out)
    go_wp2
    go_ret
    exact⟨by rw[HE.out];rfl,rfl⟩
   ·have be:(x==y)=false:=by simpa using e
    have HN:=As.mk e
    clear e
    go_wp2
    go_round
    case rel=>exact⟨k+1,by go_num,by omega,⟨fun j hj=>by
     by_cases e:j=k
     ·rw[e,HY.out];simpa using HN.out
     ·exact HI.out j (by omega)⟩⟩
    case measure=>simp[intOf];omega
  ·have i1:¬(k:Int)<(n:Int):=by omega
   have HE:=As.mk (HR.out.miss (fun j hj=>HI.out j (by omega)))
   go_wp2
   go_ret
   exact⟨by rw[HE.out];rfl,rfl⟩
theorem hear1_any(p r:Nat)(an:Bool)(cx rc:Int)(w:World)(q:Nat)(h8:w.cell? ⟨p,8,none⟩=some (.bool an))(h1:w.cell? ⟨p,1,none⟩=some (.int .i64 cx))(h0:w.cell? ⟨r,0,none⟩=some (.int .i64 rc)):
 Calls Tryz.prog 46 #[.pointer (some ⟨p,0,none⟩),.pointer (some ⟨r,0,none⟩)] (w.drewN q) fun e w'=>e= .returned (.bool (!an&&decide (cx=rc)))/\∃q',w'=w.drewN q':=by
 obtain⟨W,hW⟩:∃W,W=w.drewN q:=⟨_,rfl⟩
 have g8:W.cell? ⟨p,8,none⟩=some (.bool an):=by rw[hW];exact h8
 have g1:W.cell? ⟨p,1,none⟩=some (.int .i64 cx):=by rw[hW];exact h1
 have g0:W.cell? ⟨r,0,none⟩=some (.int .i64 rc):=by rw[hW];exact h0
 have HD:As (∀n,W.drewN n=w.drewN (q+n)):=⟨fun n=>by rw[hW,World.drewN_drewN]⟩
 rw[<-hW]
 obtain⟨b,hb⟩:∃b,(cx==rc)=b:=⟨_,rfl⟩
 have HB:As (decide (cx=rc)=b):=⟨by rw[<-hb];rfl⟩
 rw[HB.out]
 clear hW h8 h1 h0
 cases an
 ·go_enter Tryz.func46,Tryz.ntmps46
  go_wp2_with fail
  go_quiet (fail)
  go_wp2_with fail
  go_ret
  exact⟨rfl,q+nq,HD.out nq⟩
 ·go_enter Tryz.func46,Tryz.ntmps46
  go_wp2_with fail
  go_quiet (fail)
  go_wp2_with fail
  go_ret
  exact⟨rfl,q+nq,HD.out nq⟩
theorem hear2_any(p:Nat)(an:Bool)(w:World)(q:Nat)(h8:w.cell? ⟨p,8,none⟩=some (.bool an)):
 Calls Tryz.prog 51 #[.pointer (some ⟨p,0,none⟩)] (w.drewN q) fun e w'=>e= .returned (.bool (!an))/\∃q',w'=w.drewN q':=by
 have g8:(w.drewN q).cell? ⟨p,8,none⟩=some (.bool an):=h8
 obtain⟨W,hW⟩:∃W,W=w.drewN q:=⟨_,rfl⟩
 rw[<-hW] at g8⊢
 have HD:=As.mk hW
 clear hW h8
 go_enter Tryz.func51,Tryz.ntmps51
 go_wp2
 go_ret
 exact⟨rfl,q,HD.out⟩
end Go.Proofs.YtdiljpdohmeceaaGreat.co
namespace Go.Proofs.YtdiljpdohmeceaaGreat.so
open Go.Sort
variable {α:Type} [Inhabited α] {lt:α->α->Bool}
structure Swapped(a b n:Nat)(d f:Array α):Prop where
 size:f.size=d.size
 low:∀x,a<=x->x<a+n->f[x]! =d[x-a+b]!
 high:∀x,b<=x->x<b+n->f[x]! =d[x-b+a]!
 rest:∀x,(x<a\/a+n<=x)->(x<b\/b+n<=x)->f[x]! =d[x]!
theorem Swapped.zero(a b:Nat)(d:Array α):Swapped a b 0 d d:=⟨rfl,fun x _ _=>by omega,fun x _ _=>by omega,fun _ _ _=>rfl⟩
theorem Swapped.step{a b n:Nat}{d f:Array α}(h:Swapped a b n d f)(hab:a+n<b)(hb:b+n<d.size):Swapped a b (n+1) d (swp f (a+n) (b+n)):=by
 have hs:=h.size
 have g:=swp_get f (show a+n<f.size by omega) (show b+n<f.size by omega)
 refine⟨by rw[swp_size,hs],fun x h1 h2=> ?_,fun x h1 h2=> ?_,fun x h1 h2=> ?_⟩
 ·rw[g,if_neg (by omega)]
  by_cases e:x=a+n
  ·subst e
   rw[if_pos rfl,h.rest _ (by omega) (by omega)]
   congr 1
   omega
  ·rw[if_neg e,h.low x h1 (by omega)]
 ·rw[g]
  by_cases e:x=b+n
  ·subst e
   rw[if_pos rfl,h.rest _ (by omega) (by omega)]
   congr 1
   omega
  ·rw[if_neg e,if_neg (by omega),h.high x h1 (by omega)]
 ·rw[g,if_neg (by omega),if_neg (by omega),h.rest x (by omega) (by omega)]
theorem Swapped.perm{a b n:Nat}{d f:Array α}(lo hi:Nat)(hab:a+n<=b)(hlo:lo<=a)(hhi:b+n<=hi)(hd:hi<=d.size)(h:Swapped a b n d f):PermIn lo hi d f:=by
 induction n generalizing f with
 |zero=>
  have e:f=d:=by
   apply Array.ext h.size
   intro i h1 h2
   have:=h.rest i (by omega) (by omega)
   rwa[getElem!_pos f i h1,getElem!_pos d i h2] at this
  rw[e]
  exact permIn_refl d lo hi
 |succ n ih=>
  have hs:=h.size
  have h0:Swapped a b n d (swp f (a+n) (b+n)):=by
   have g:=swp_get f (show a+n<f.size by omega) (show b+n<f.size by omega)
   refine⟨by rw[swp_size,hs],fun x h1 h2=> ?_,fun x h1 h2=> ?_,fun x h1 h2=> ?_⟩
   ·rw[g,if_neg (by omega),if_neg (by omega),h.low x h1 (by omega)]
   ·rw[g,if_neg (by omega),if_neg (by omega),h.high x h1 (by omega)]
   ·rw[g]
    by_cases e:x=b+n
    ·subst e
     rw[if_pos rfl,h.low _ (by omega) (by omega)]
     congr 1
     omega
    ·rw[if_neg e]
     by_cases e2:x=a+n
     ·subst e2
      rw[if_pos rfl,h.high _ (by omega) (by omega)]
      congr 1
      omega
     ·rw[if_neg e2,h.rest x (by omega) (by omega)]
  have e:swp (swp f (a+n) (b+n)) (a+n) (b+n)=f:=by
   apply Array.ext (by rw[swp_size,swp_size])
   intro i h1 h2
   have h3:i<(swp f (a+n) (b+n)).size:=by rw[swp_size] at h1;exact h1
   have g1:=swp_get (swp f (a+n) (b+n)) (show a+n<_ by rw[swp_size];omega) (show b+n<_ by rw[swp_size];omega) i
   have g:=swp_get f (show a+n<f.size by omega) (show b+n<f.size by omega)
   have:(swp (swp f (a+n) (b+n)) (a+n) (b+n))[i]! =f[i]! :=by
    rw[g1]
    by_cases e1:i=b+n
    ·rw[if_pos e1,g,if_neg (by omega),if_pos rfl,e1]
    ·rw[if_neg e1]
     by_cases e2:i=a+n
     ·rw[if_pos e2,g,if_pos rfl,e2]
     ·rw[if_neg e2,g,if_neg e1,if_neg e2]
   rwa[getElem!_pos _ i h1,getElem!_pos f i h2] at this
  have hp:=swp_permIn (swp f (a+n) (b+n)) lo hi (a+n) (b+n) (by omega) (by omega) (by omega) (by omega) (by rw[swp_size,hs];exact hd)
  rw[e] at hp
  exact permIn_trans _ _ _ lo hi (ih (by omega) (by omega) h0) hp
structure Rot(a m b:Nat)(d f:Array α):Prop where
 size:f.size=d.size
 low:∀x,a<=x->x<a+(b-m)->f[x]! =d[x+(m-a)]!
 high:∀x,a+(b-m)<=x->x<b->f[x]! =d[x-(b-m)]!
 rest:∀x,(x<a\/b<=x)->f[x]! =d[x]!
theorem Rot.last{m i:Nat}{d f:Array α}(him:i<=m)(h:Swapped (m-i) m i d f):Rot (m-i) m (m+i) d f:=by
 refine⟨h.size,fun x h1 h2=> ?_,fun x h1 h2=> ?_,fun x h1=> ?_⟩
 ·rw[h.low x h1 (by omega)];congr 1;omega
 ·rw[h.high x (by omega) (by omega)];congr 1;omega
 ·exact h.rest x (by omega) (by omega)
theorem Rot.more{m i j:Nat}{d c f:Array α}(him:i<=m)(hji:j<i)(h:Swapped (m-i) m j d c)(r:Rot (m-(i-j)) m (m+j) c f):Rot (m-i) m (m+j) d f:=by
 refine⟨r.size.trans h.size,fun x h1 h2=> ?_,fun x h1 h2=> ?_,fun x h1=> ?_⟩
 ·rw[r.rest x (by omega),h.low x h1 (by omega)];congr 1;omega
 ·by_cases e:x<m-(i-j)+(m+j-m)
  ·rw[r.low x (by omega) e]
   rw[h.high _ (by omega) (by omega)]
   congr 1;omega
  ·rw[r.high x (by omega) h2,h.rest _ (by omega) (by omega)]
 ·rw[r.rest x (by omega),h.rest x (by omega) (by omega)]
theorem Rot.less{m i j:Nat}{d c f:Array α}(him:i<=m)(hij:i<j)(h:Swapped (m-i) (m+j-i) i d c)(r:Rot (m-i) m (m+(j-i)) c f):Rot (m-i) m (m+j) d f:=by
 refine⟨r.size.trans h.size,fun x h1 h2=> ?_,fun x h1 h2=> ?_,fun x h1=> ?_⟩
 ·by_cases e:x<m-i+(m+(j-i)-m)
  ·rw[r.low x h1 e,h.rest _ (by omega) (by omega)]
  ·by_cases e2:x<m+(j-i)
   ·rw[r.high x (by omega) e2,h.low _ (by omega) (by omega)];congr 1;omega
   ·omega
 ·by_cases e2:x<m+(j-i)
  ·by_cases e:x<m-i+(m+(j-i)-m)
   ·omega
   ·rw[r.high x (by omega) e2,h.low _ (by omega) (by omega)];congr 1;omega
  ·rw[r.rest x (by omega),h.high x (by omega) (by omega)];congr 1;omega
 ·rw[r.rest x (by omega),h.rest x (by omega) (by omega)]
theorem SortedIn.part{a b a' b':Nat}{d:Array α}(h:SortedIn lt a b d)(ha:a<=a')(hb:b'<=b):SortedIn lt a' b' d:=fun i j h1 h2 h3=>h i j (by omega) h2 (by omega)
theorem SortedIn.out{a b lo hi:Nat}{d f:Array α}(h:SortedIn lt a b d)(hp:PermIn lo hi d f)(ho:b<=lo\/hi<=a):SortedIn lt a b f:=fun i j h1 h2 h3=>by
 rw[hp.2.1 i (by omega),hp.2.1 j (by omega)]
 exact h i j h1 h2 h3
theorem sorted_one(a b:Nat)(d:Array α)(h:b<=a+1):SortedIn lt a b d:=fun i j h1 h2 h3=>by omega
structure Cutp(lt:α->α->Bool)(a m b mid st en:Nat)(d:Array α):Prop where
 am:a<=st/\st<=m
 mb:m<=en/\en<=b
 sum:st+en=mid+m
 mid:a<mid/\mid<b
 le1:∀x y,a<=x->x<st->en<=y->y<b->lt d[y]! d[x]! =false
 le2:∀x y,st<=x->x<m->m<=y->y<en->lt d[y]! d[x]! =true
structure Halves(lt:α->α->Bool)(a b mid st en:Nat)(f:Array α):Prop where
 s1:SortedIn lt a st f
 s2:SortedIn lt st mid f
 s3:SortedIn lt mid en f
 s4:SortedIn lt en b f
 le:∀x y,a<=x->x<mid->mid<=y->y<b->lt f[y]! f[x]! =false
theorem Cutp.halves(hO:SWO lt){a m b mid st en:Nat}{d f:Array α}(h:Cutp lt a m b mid st en d)(s1:SortedIn lt a m d)(s2:SortedIn lt m b d)(r:Rot st m en d f):Halves lt a b mid st en f:=by
 have h1:=h.am
 have h2:=h.mb
 have h3:=h.sum
 have h4:=h.mid
 have fa:∀x,x<st->f[x]! =d[x]! :=fun x hx=>r.rest x (by omega)
 have fd:∀x,en<=x->f[x]! =d[x]! :=fun x hx=>r.rest x (by omega)
 have fb:∀x,st<=x->x<mid->f[x]! =d[x+(m-st)]! :=fun x hx hy=>r.low x (by omega) (by omega)
 have fc:∀x,mid<=x->x<en->f[x]! =d[x-(en-m)]! :=fun x hx hy=>r.high x (by omega) (by omega)
 refine⟨fun i j p q s=> ?_,fun i j p q s=> ?_,fun i j p q s=> ?_,fun i j p q s=> ?_,fun x y p q s t=> ?_⟩
 ·rw[fa i (by omega),fa j s];exact s1 i j p q (by omega)
 ·rw[fb i p (by omega),fb j (by omega) s];exact s2 _ _ (by omega) (by omega) (by omega)
 ·rw[fc i p (by omega),fc j (by omega) s];exact s1 _ _ (by omega) (by omega) (by omega)
 ·rw[fd i p,fd j (by omega)];exact s2 _ _ (by omega) q s
 ·by_cases e1:x<st
  ·rw[fa x e1]
   by_cases e2:y<en
   ·rw[fc y s e2];exact s1 _ _ p (by omega) (by omega)
   ·rw[fd y (by omega)];exact h.le1 x y p e1 (by omega) t
  ·rw[fb x (by omega) q]
   by_cases e2:y<en
   ·rw[fc y s e2]
    exact hO.asymmA (h.le2 (y-(en-m)) (x+(m-st)) (by omega) (by omega) (by omega) (by omega))
   ·rw[fd y (by omega)];exact s2 _ _ (by omega) (by omega) t
theorem Halves.join{a b mid st en:Nat}{f f1 f2:Array α}(h:Halves lt a b mid st en f)(hb:mid<=b)(hd:b<=f.size)(p1:PermIn a mid f f1)(t1:SortedIn lt a mid f1)(p2:PermIn mid b f1 f2)(t2:SortedIn lt mid b f2):SortedIn lt a b f2:=by
 have hd1:f1.size=f.size:=p1.1
 intro i j h1 h2 h3
 by_cases e1:j<mid
 ·rw[p2.2.1 i (by omega),p2.2.1 j (by omega)];exact t1 i j h1 h2 e1
 ·by_cases e2:mid<=i
  ·exact t2 i j e2 h2 h3
  ·
   have q1:∀x,a<=x->x<mid->∀y,mid<=y->y<b->lt f[y]! f1[x]! =false:=fun x hx hx2=>by
    refine permIn_all f f1 a mid (fun v=>∀y,mid<=y->y<b->lt f[y]! v=false) (by omega) p1 (fun x hx hx2 y hy hy2=>h.le x y hx hx2 hy hy2) x hx hx2
   have q2:∀y,mid<=y->y<b->lt f2[y]! f1[i]! =false:=fun y hy hy2=>by
    refine permIn_all f1 f2 mid b (fun v=>lt v f1[i]! =false) (by omega) p2 (fun y hy hy2=> ?_) y hy hy2
    rw[p1.2.1 y (by omega)]
    exact q1 i h1 (by omega) y hy hy2
   rw[p2.2.1 i (by omega)]
   exact q2 j (by omega) h3
theorem first_in(hO:SWO lt){a b i:Nat}{d f:Array α}(hi:a<i/\i<=b)(s:SortedIn lt (a+1) b d)(lo:∀x,a+1<=x->x<i->lt d[x]! d[a]! =true)(hi2:∀x,i<=x->x<b->lt d[x]! d[a]! =false)
 (g1:∀x,a<=x->x<i-1->f[x]! =d[x+1]!) (g2:f[i-1]! =d[a]!) (g3:∀x,i<=x->x<b->f[x]! =d[x]!):SortedIn lt a b f:=by
 intro p q h1 h2 h3
 by_cases e1:p<i-1
 ·rw[g1 p h1 e1]
  by_cases e2:q<i-1
  ·rw[g1 q (by omega) e2];exact s _ _ (by omega) (by omega) (by omega)
  ·by_cases e3:q=i-1
   ·rw[e3,g2];exact hO.asymmA (lo _ (by omega) (by omega))
   ·rw[g3 q (by omega) h3];exact s _ _ (by omega) (by omega) h3
 ·by_cases e3:p=i-1
  ·rw[e3,g2,g3 q (by omega) h3];exact hi2 q (by omega) h3
  ·rw[g3 p (by omega) (by omega),g3 q (by omega) h3];exact s _ _ (by omega) h2 h3
theorem last_in(hO:SWO lt){a m i:Nat}{d f:Array α}(hi:a<=i/\i<=m)(s:SortedIn lt a m d)(lo:∀x,a<=x->x<i->lt d[m]! d[x]! =false)(hi2:∀x,i<=x->x<m->lt d[m]! d[x]! =true)
 (g1:∀x,a<=x->x<i->f[x]! =d[x]!) (g2:f[i]! =d[m]!) (g3:∀x,i<x->x<=m->f[x]! =d[x-1]!):SortedIn lt a (m+1) f:=by
 intro p q h1 h2 h3
 by_cases e1:p<i
 ·rw[g1 p h1 e1]
  by_cases e2:q<i
  ·rw[g1 q (by omega) e2];exact s p q h1 h2 (by omega)
  ·by_cases e3:q=i
   ·rw[e3,g2];exact lo p h1 e1
   ·rw[g3 q (by omega) (by omega)];exact s _ _ h1 (by omega) (by omega)
 ·by_cases e3:p=i
  ·rw[e3,g2,g3 q (by omega) (by omega)];exact hO.asymmA (hi2 _ (by omega) (by omega))
  ·rw[g3 p (by omega) (by omega),g3 q (by omega) (by omega)];exact s _ _ (by omega) (by omega) (by omega)
structure Up(a n:Nat)(d f:Array α):Prop where
 size:f.size=d.size
 mid:∀x,a<=x->x<a+n->f[x]! =d[x+1]!
 at_:f[a+n]! =d[a]!
 rest:∀x,(x<a\/a+n<x)->f[x]! =d[x]!
 perm:∀lo hi,lo<=a->a+n<hi->hi<=d.size->PermIn lo hi d f
theorem Up.zero(a:Nat)(d:Array α):Up a 0 d d:=⟨rfl,fun x _ _=>by omega,rfl,fun _ _=>rfl,fun lo hi _ _ _=>permIn_refl d lo hi⟩
theorem Up.step{a n:Nat}{d f:Array α}(h:Up a n d f)(hn:a+n+1<d.size):Up a (n+1) d (swp f (a+n) (a+n+1)):=by
 have hs:=h.size
 have g:=swp_get f (show a+n<f.size by omega) (show a+n+1<f.size by omega)
 refine⟨by rw[swp_size,hs],fun x h1 h2=> ?_, ?_,fun x h1=> ?_,fun lo hi h1 h2 h3=> ?_⟩
 ·rw[g,if_neg (by omega)]
  by_cases e:x=a+n
  ·rw[if_pos e,h.rest _ (by omega),e]
  ·rw[if_neg e,h.mid x h1 (by omega)]
 ·rw[show a+(n+1)=a+n+1 by omega,g,if_pos rfl,h.at_]
 ·rw[g,if_neg (by omega),if_neg (by omega),h.rest x (by omega)]
 ·exact permIn_trans _ _ _ lo hi (h.perm lo hi h1 (by omega) h3) (swp_permIn f lo hi _ _ (by omega) (by omega) (by omega) (by omega) (by rw[hs];exact h3))
structure Down(m n:Nat)(d f:Array α):Prop where
 size:f.size=d.size
 mid:∀x,m-n<x->x<=m->f[x]! =d[x-1]!
 at_:f[m-n]! =d[m]!
 rest:∀x,(x<m-n\/m<x)->f[x]! =d[x]!
 perm:∀lo hi,lo<=m-n->m<hi->hi<=d.size->PermIn lo hi d f
theorem Down.zero(m:Nat)(d:Array α):Down m 0 d d:=⟨rfl,fun x _ _=>by omega,rfl,fun _ _=>rfl,fun lo hi _ _ _=>permIn_refl d lo hi⟩
theorem Down.step{m n:Nat}{d f:Array α}(h:Down m n d f)(hn:n<m)(hm:m<d.size):Down m (n+1) d (swp f (m-n) (m-n-1)):=by
 have hs:=h.size
 have g:=swp_get f (show m-n<f.size by omega) (show m-n-1<f.size by omega)
 refine⟨by rw[swp_size,hs],fun x h1 h2=> ?_, ?_,fun x h1=> ?_,fun lo hi h1 h2 h3=> ?_⟩
 ·rw[g,if_neg (by omega)]
  by_cases e:x=m-n
  ·rw[if_pos e,h.rest _ (by omega),e]
  ·rw[if_neg e,h.mid x (by omega) (by omega)]
 ·rw[show m-(n+1)=m-n-1 by omega,g,if_pos rfl,h.at_]
 ·rw[g,if_neg (by omega),if_neg (by omega),h.rest x (by omega)]
 ·exact permIn_trans _ _ _ lo hi (h.perm lo hi (by omega) h2 h3) (swp_permIn f lo hi _ _ (by omega) (by omega) (by omega) (by omega) (by rw[hs];exact h3))
def Blk(lt:α->α->Bool)(s lo n:Nat)(d:Array α):Prop:=∀x,lo<=x->x<n->s∣x->SortedIn lt x (min (x+s) n) d
theorem Blk.out{s lo n l2 h2:Nat}{d f:Array α}(h:Blk lt s lo n d)(hp:PermIn l2 h2 d f)(hh:h2<=lo):Blk lt s lo n f:=fun x h1 h3 h4=>SortedIn.out (h x h1 h3 h4) hp (.inr (by omega))
def Bel(lt:α->α->Bool)(s hi n:Nat)(d:Array α):Prop:=∀x,x<hi->s∣x->SortedIn lt x (min (x+s) n) d
theorem Bel.zero(s n:Nat)(d:Array α):Bel lt s 0 n d:=fun x h=>by omega
theorem dvd_gap{s a x:Nat}(h1:s∣a)(h2:s∣x)(h3:x<a+s)(h4:¬x<a):x=a:=by
 obtain⟨p,rfl⟩:=h1
 obtain⟨q,rfl⟩:=h2
 have hq:q<p+1:=by
  rw[show s*p+s=s*(p+1) by rw[Nat.mul_add,Nat.mul_one]] at h3
  exact Nat.lt_of_mul_lt_mul_left h3
 by_cases e:q<p
 ·have hs:0<s:=by
   rcases Nat.eq_zero_or_pos s with h|h
   ·subst h;simp at h3
   ·exact h
  exact absurd (Nat.mul_lt_mul_of_pos_left e hs) h4
 ·rw[show q=p by omega]
theorem dvd_low{s a x:Nat}(h1:s∣a)(h2:s∣x)(h3:x<a):x+s<=a:=by
 obtain⟨p,rfl⟩:=h1
 obtain⟨q,rfl⟩:=h2
 have:q<p:=Nat.lt_of_mul_lt_mul_left h3
 calc s*q+s=s*(q+1):=by rw[Nat.mul_add,Nat.mul_one]
  _<=s*p:=Nat.mul_le_mul_left s this
theorem Bel.next{s a n:Nat}{d f:Array α}(h:Bel lt s a n d)(ha:s∣a)(hp:PermIn a (min (a+s) n) d f)(hs:SortedIn lt a (min (a+s) n) f):Bel lt s (a+s) n f:=fun x h1 h2=>by
 by_cases e:x<a
 ·have:=dvd_low ha h2 e
  exact SortedIn.out (h x e h2) hp (.inl (by omega))
 ·rw[dvd_gap ha h2 h1 e];exact hs
theorem Bel.blk{s hi n:Nat}{d:Array α}(h:Bel lt s hi n d)(hn:n<=hi):Blk lt s 0 n d:=fun x _ h1 h2=>h x (by omega) h2
theorem Bel.rest{s a n:Nat}{d:Array α}(h:Bel lt (2*s) a n d)(hb:Blk lt s a n d)(ha:2*s∣a)(hn:n<=a+s):Blk lt (2*s) 0 n d:=fun x _ h1 h2=>by
 by_cases e:x<a
 ·exact h x e h2
 ·have hx:x=a:=dvd_gap ha h2 (by omega) e
  subst hx
  have:=hb x (Nat.le_refl _) h1 (Nat.dvd_trans ⟨2,by omega⟩ ha)
  exact SortedIn.part this (Nat.le_refl _) (by omega)
end Go.Proofs.YtdiljpdohmeceaaGreat.so
namespace Go.Proofs.YtdiljpdohmeceaaGreat.so
open Go.RowKit Go.Sort Go.Lib H
variable {α:Type} [Inhabited α]
theorem swapRange_any(k:Nat)(aE:∀w,(isAgg 73).run Tryz.prog w= .ok true w)(zE:∀w,(Go.sizeOf 73).run Tryz.prog w= .ok k w)(enc:α->List Value)(fv:Value)(blk off cap a b n:Nat)(d0 d:Array α)(w0 w:World)
 (R:RowK enc k w0 blk off d0) (hs:d0.size=d.size) (S:SWK enc k w0 blk off d w) (hab:a+n<=b) (hb:b+n<=d.size) (hsz:d.size<4611686018427387904):
 Calls Tryz.prog 139 #[.slice (some ⟨blk,off,none⟩) d.size cap,.int .i64 a,.int .i64 b,.int .i64 n,fv] w fun e w'=>e= .returned (.tuple #[])/\∃f,Swapped a b n d f/\SWK enc k w0 blk off f w':=by
 have mixed:Tryz.prog.follows Departure.mixedOrders=true:=by kernel_rfl
 have S0:Aside (SWK enc k w0 blk off d w):=S
 clear S
 go_enter Tryz.func139,Tryz.ntmps139
 go_wp2
 go_loopg [10] n (fun kx s10 wr=>∃(i:Nat) (dk:Array α),s10= .int .i64 i/\i+kx=n/\Swapped a b i d dk/\Aside (SWK enc k w0 blk off dk wr))
 case atStart=>exact⟨0,d,rfl,by omega,Swapped.zero a b d,S0⟩
 case round=>
  clear S0
  obtain⟨i,dk,rfl,hkx,hsw,S1⟩:=hrel
  by_cases hlt:i<n
  ·have hltz:(i:Int)<(n:Int):=by omega
   have hds:dk.size=d.size:=hsw.size
   have HSW:Hid (Swapped a b (i+1) d (swp dk (a+i) (b+i))):=hsw.step (by omega) (by omega)
   clear hsw
   go_wp2_with fail
   have ea44:((a:Int)+(i:Int)).toNat=a+i:=by omega
   have pa44:(0:Int)<=(a:Int)+(i:Int):=by omega
   have ba44:(a:Int)+(i:Int)<(d.size:Int):=by omega
   have ra44:IntKind.i64.wrap ((a:Int)+(i:Int))=(a:Int)+(i:Int):=by rw[IntKind.wrap_i64];omega
   have ec44:((b:Int)+(i:Int)).toNat=b+i:=by omega
   have pc44:(0:Int)<=(b:Int)+(i:Int):=by omega
   have bc44:(b:Int)+(i:Int)<(d.size:Int):=by omega
   have rc44:IntKind.i64.wrap ((b:Int)+(i:Int))=(b:Int)+(i:Int):=by rw[IntKind.wrap_i64];omega
   have S2:Aside (SWK enc k w0 blk off (swp dk (a+i) (b+i)) ((wr.drew.setCells blk (off+(a+i)*k) (enc dk[b+i]!)).setCells blk (off+(b+i)*k) (enc dk[a+i]!))):=S1.out.swapped R (a+i) (b+i) (by omega) (by omega)
   have l44a:=S1.out.ld1 R (by omega) Tryz.prog (a+i) (by omega)
   have l44b:=S1.out.ld1 R (by omega) Tryz.prog (b+i) (by omega)
   have s44a:=S1.out.st1 R (by omega) Tryz.prog (a+i) (by omega) dk[b+i]!
   have s44b:=S1.out.st2 R (by omega) Tryz.prog (a+i) (b+i) (by omega) (by omega) dk[b+i]! dk[a+i]!
   have n44a:(enc dk[a+i]!).length=k:=R.hk _
   have n44b:(enc dk[b+i]!).length=k:=R.hk _
   generalize enc dk[a+i]! =cI44 at S2 l44a s44b n44a
   generalize enc dk[b+i]! =cJ44 at S2 l44b s44a s44b n44b
   clear S1
   go_big_region_o
   clear l44a l44b s44a s44b
   generalize (wr.drew.setCells blk (off+(a+i)*k) cJ44).setCells blk (off+(b+i)*k) cI44=w2 at S2⊢
   go_wp2
   go_roundg (n-(i+1))
   case measure=>omega
   case rel=>exact⟨i+1,swp dk (a+i) (b+i),by simp,by omega,HSW.out,S2⟩
  ·have hltz:¬(i:Int)<(n:Int):=by omega
   go_wp2
   go_end0
   obtain rfl:i=n:=by omega
   exact⟨rfl,dk,hsw,S1.out⟩
theorem rotate_any(k:Nat)(aE:∀w,(isAgg 73).run Tryz.prog w= .ok true w)(zE:∀w,(Go.sizeOf 73).run Tryz.prog w= .ok k w)(enc:α->List Value)(fv:Value)(blk off cap a m b:Nat)(d0 d:Array α)(w0 w:World)
 (R:RowK enc k w0 blk off d0) (hs:d0.size=d.size) (S:SWK enc k w0 blk off d w) (ham:a<m) (hmb:m<b) (hb:b<=d.size) (hsz:d.size<4611686018427387904):
 Calls Tryz.prog 129 #[.slice (some ⟨blk,off,none⟩) d.size cap,.int .i64 a,.int .i64 m,.int .i64 b,fv] w fun e w'=>e= .returned (.tuple #[])/\∃f,Rot a m b d f/\PermIn a b d f/\SWK enc k w0 blk off f w':=by
 have S0:Aside (SWK enc k w0 blk off d w):=S
 have HSW:As (∀(x y n:Nat) (dk:Array α) (wr:World),dk.size=d.size->SWK enc k w0 blk off dk wr->x+n<=y->y+n<=d.size->Calls Tryz.prog 139 #[.slice (some ⟨blk,off,none⟩) d.size cap,.int .i64 x,.int .i64 y,.int .i64 n,fv] wr fun e w'=>e= .returned (.tuple #[])/\∃f,Swapped x y n dk f/\SWK enc k w0 blk off f w'):=⟨fun x y n dk wr h1 h2 h3 h4=>by
  have:=swapRange_any k aE zE enc fv blk off cap x y n d0 dk w0 wr R (by omega) h2 h3 (by omega) (by omega)
  rwa[h1] at this⟩
 have HC0:Hid (∀f,Rot (m-(m-a)) m (m+(b-m)) d f->Rot a m b d f):=by
  show ∀f,Rot (m-(m-a)) m (m+(b-m)) d f->Rot a m b d f
  rw[show m-(m-a)=a by omega,show m+(b-m)=b by omega]
  exact fun f h=>h
 have HP0:Hid (PermIn a b d d):=permIn_refl d a b
 clear S aE zE R
 go_enter Tryz.func129,Tryz.ntmps129
 go_wp2
 go_loopg [10,11] (b-a) (fun kx s10 s11 wr=>∃(i j:Nat) (dk:Array α),s10= .int .i64 i/\s11= .int .i64 j/\1<=i/\1<=j/\i<=m-a/\j<=b-m/\i+j<=kx/\dk.size=d.size/\Hid (∀f,Rot (m-i) m (m+j) dk f->Rot a m b d f)/\Hid (PermIn a b d dk)/\Aside (SWK enc k w0 blk off dk wr))
 case atStart=>exact⟨m-a,b-m,d,by congr 1;omega,by congr 1;omega,by omega,by omega,Nat.le_refl _,Nat.le_refl _,by omega,rfl,HC0,HP0,S0⟩
 case round=>
  clear S0 HC0 HP0
  obtain⟨i,j,dk,rfl,rfl,i1,j1,him,hjb,hkx,hds,HC,HP,S1⟩:=hrel
  have em:((m:Int)-(i:Int))=((m-i:Nat):Int):=by omega
  by_cases hij:i=j
  ·subst hij
   have H1:=As.mk (HSW.out (m-i) m i dk wr hds S1.out (by omega) (by omega))
   rw[<-em] at H1
   clear HSW S1 em
   go_wp2_with (go_at_call 139;refine H1.out.mono ?_;rintro e w1 ⟨rfl,f,h1,h2⟩;have HF:=As.mk (And.intro h1 h2);clear h1 h2 H1)
   go_end0
   exact⟨rfl,f,HC.out f (Rot.last (by omega) HF.out.1),permIn_trans _ _ _ a b HP.out (Swapped.perm a b (by omega) (by omega) (by omega) (by omega) HF.out.1),HF.out.2⟩
  ·have hne:¬(i:Int)=(j:Int):=by omega
   by_cases hlt:j<i
   ·have hltz:(j:Int)<(i:Int):=by omega
    have H1:=As.mk (HSW.out (m-i) m j dk wr hds S1.out (by omega) (by omega))
    rw[<-em] at H1
    clear HSW S1 em
    go_wp2_with (go_at_call 139;refine H1.out.mono ?_;rintro e w1 ⟨rfl,f,h1,h2⟩;have HF:=As.mk (And.intro h1 h2);clear h1 h2 H1)
    go_roundg (i-j+j)
    case measure=>omega
    case rel=>exact⟨i-j,j,f,by congr 1;omega,rfl,by omega,j1,by omega,hjb,Nat.le_refl _,HF.out.1.size.trans hds,fun g hg=>HC.out g (Rot.more (by omega) hlt HF.out.1 hg),permIn_trans _ _ _ a b HP.out (Swapped.perm a b (by omega) (by omega) (by omega) (by omega) HF.out.1),HF.out.2⟩
   ·have hltz:¬(j:Int)<(i:Int):=by omega
    have H1:=As.mk (HSW.out (m-i) (m+j-i) i dk wr hds S1.out (by omega) (by omega))
    rw[<-em,show((m+j-i:Nat):Int)=(m:Int)+(j:Int)-(i:Int) by omega] at H1
    clear HSW S1 em
    go_wp2_with (go_at_call 139;refine H1.out.mono ?_;rintro e w1 ⟨rfl,f,h1,h2⟩;have HF:=As.mk (And.intro h1 h2);clear h1 h2 H1)
    go_roundg (i+(j-i))
    case measure=>omega
    case rel=>exact⟨i,j-i,f,rfl,by congr 1;omega,i1,by omega,him,by omega,Nat.le_refl _,HF.out.1.size.trans hds,fun g hg=>HC.out g (Rot.less (by omega) (by omega) HF.out.1 hg),permIn_trans _ _ _ a b HP.out (Swapped.perm a b (by omega) (by omega) (by omega) (by omega) HF.out.1),HF.out.2⟩
variable {α:Type} [Inhabited α]
structure Srt(enc:α->List Value)(k:Nat)(cf:α->α->Int)(g:Nat)(cb:Array Value)(blk off:Nat)(d0:Array α)(w0:World):Prop where
 aE:∀w,(isAgg 73).run Tryz.prog w= .ok true w
 zE:∀w,(Go.sizeOf 73).run Tryz.prog w= .ok k w
 eg:∀args w,(callFunc g args).run Tryz.prog w= .ok (.enter g args) w
 hc:CmpLays Tryz.prog g cb enc k cf blk off d0.size w0
 R:RowK enc k w0 blk off d0
 hO:SWO (ltOf cf)
 hz:d0.size<4611686018427387904
theorem merge_first{enc:α->List Value}{k:Nat}{cf:α->α->Int}{g:Nat}{cb:Array Value}{blk off:Nat}{d0:Array α}{w0:World}(X:Srt enc k cf g cb blk off d0 w0)(cap a m b:Nat)(d:Array α)(w:World)
 (hs:d.size=d0.size) (S:SWK enc k w0 blk off d w) (ham:a<m) (ham2:m<=a+1) (hmb:m<b) (hb:b<=d.size) (s2:SortedIn (ltOf cf) m b d):
 Calls Tryz.prog 120 #[.slice (some ⟨blk,off,none⟩) d.size cap,.int .i64 a,.int .i64 m,.int .i64 b,.func (.func g) #[] cb] w fun e w'=>e= .returned (.tuple #[])/\∃f,PermIn a b d f/\SortedIn (ltOf cf) a b f/\SWK enc k w0 blk off f w':=by
 have mixed:Tryz.prog.follows Departure.mixedOrders=true:=by kernel_rfl
 obtain⟨aE,zE,eg,hc,R,hO,hz⟩:=X
 have HC:Aside _:=hc
 have HR:Aside _:=R
 have HO:Aside _:=hO
 have S0:Aside (SWK enc k w0 blk off d w):=S
 have S2:Aside _:=s2
 have hsz:d.size<4611686018427387904:=by rw[hs];exact hz
 have HS:=As.mk hs
 clear S hc R hO s2 hs
 have e1:((m:Int)-(a:Int)==1)=true:=by simp;omega
 go_enter Tryz.func120,Tryz.ntmps120
 go_wp2
 go_loopg [10,11] (b-a) (fun kx s10 s11 wr=>∃(i j:Nat),s10= .int .i64 i/\s11= .int .i64 j/\m<=i/\i<=j/\j<=b/\j-i<=kx/\Aside ((∀x,m<=x->x<i->ltOf cf d[x]! d[a]! =true)/\(∀x,j<=x->x<b->ltOf cf d[x]! d[a]! =false)/\SWK enc k w0 blk off d wr))
 case atStart=>exact⟨m,b,rfl,rfl,by omega,by omega,by omega,by omega,⟨fun x h1 h2=>by omega,fun x h1 h2=>by omega,S0.out⟩⟩
 case round=>
  clear S0
  obtain⟨i,j,rfl,rfl,i1,hij,hjb,hkx,S1⟩:=hrel
  by_cases hlt:i<j
  ·have hltz:(i:Int)<(j:Int):=by omega
   obtain⟨h,hh⟩:∃h,(i+j)/2=h:=⟨_,rfl⟩
   have eh:((i:Int)+(j:Int))/2=(h:Int):=by omega
   have h1:i<=h:=by omega
   have h2:h<j:=by omega
   clear hh
   obtain⟨xh,hxh⟩:∃x,d[h]! =x:=⟨_,rfl⟩
   obtain⟨xa,hxa⟩:∃x,d[a]! =x:=⟨_,rfl⟩
   have jz:(h:Int)<(d.size:Int):=by omega
   have jz1:(a:Int)<(d.size:Int):=by omega
   have lh:=S1.out.2.2.ld HR.out HS.out Tryz.prog h (by omega)
   have la:=S1.out.2.2.ld HR.out HS.out Tryz.prog a (by omega)
   rw[hxh] at lh
   rw[hxa] at la
   have hcg:=S1.out.2.2.cmp HC.out HS.out xh xa
   have HX:Hid (d[h]! =xh/\d[a]! =xa):=⟨hxh,hxa⟩
   clear hxh hxa
   by_cases hlv:cf xh xa<0
   ·go_wp2_with fail
    clear eh
    go_quiet_grown (first|(go_at_fn g;refine Calls.grown_of (hcg _ _)))
    go_wp2
    go_roundg (j-(h+1))
    case measure=>omega
    case rel=>
     refine⟨h+1,j,by go_num,rfl,by omega,by omega,hjb,Nat.le_refl _,⟨fun x p q=> ?_,S1.out.2.1,S1.out.2.2.grown nq osq⟩⟩
     have e:ltOf cf d[h]! d[a]! =true:=by rw[HX.out.1,HX.out.2];exact decide_eq_true hlv
     by_cases e2:x=h
     ·rw[e2];exact e
     ·cases e3:ltOf cf d[x]! d[a]! with
      |true=>rfl
      |false=>rw[HO.out.ntrans _ _ _ (S2.out x h p (by omega) (by omega)) e3] at e;cases e
   ·go_wp2_with fail
    clear eh
    go_quiet_grown (first|(go_at_fn g;refine Calls.grown_of (hcg _ _)))
    go_wp2
    go_roundg (h-i)
    case measure=>omega
    case rel=>
     refine⟨i,h,rfl,rfl,i1,by omega,by omega,Nat.le_refl _,⟨S1.out.1,fun x p q=> ?_,S1.out.2.2.grown nq osq⟩⟩
     have e:ltOf cf d[h]! d[a]! =false:=by rw[HX.out.1,HX.out.2];exact decide_eq_false (by omega)
     by_cases e2:x=h
     ·rw[e2];exact e
     ·exact HO.out.ntrans _ _ _ (S2.out h x (by omega) (by omega) q) e
  ·obtain rfl:i=j:=by omega
   have hltz:¬(i:Int)<(i:Int):=by omega
   have S3:Aside _:=S1.out.2.2
   have S4:=As.mk (And.intro S1.out.1 S1.out.2.1)
   clear S1 hlt
   go_wp2
   go_loopg [13] (b-a) (fun kx s13 wr=>∃(u:Nat) (dk:Array α),s13= .int .i64 u/\a<=u/\u<=i-1/\u-a+kx=b-a/\Aside (Up a (u-a) d dk/\SWK enc k w0 blk off dk wr))
   case atStart=>exact⟨a,d,rfl,by omega,by omega,by omega,⟨by rw[Nat.sub_self];exact Up.zero a d,S3.out⟩⟩
   case round=>
    clear S3
    obtain⟨u,dk,rfl,hu,hn,hkx,S1⟩:=hrel
    by_cases hl:u<i-1
    ·have hlz:(u:Int)<(i:Int)-1:=by omega
     have HU:As (Up a (u+1-a) d (swp dk u (u+1))):=⟨by
      have:=S1.out.1.step (by omega)
      rwa[show a+(u-a)=u by omega,show u-a+1=u+1-a by omega] at this⟩
     clear hl
     have hub:u+1<d.size:=by omega
     have HDS:=As.mk S1.out.1.size
     have ea44:(u:Int).toNat=u:=by omega
     have pa44:(0:Int)<=(u:Int):=by omega
     have ba44:(u:Int)<(d.size:Int):=by omega
     have ec44:((u:Int)+1).toNat=u+1:=by omega
     have pc44:(0:Int)<=(u:Int)+1:=by omega
     have bc44:(u:Int)+1<(d.size:Int):=by omega
     have rc44:IntKind.i64.wrap ((u:Int)+1)=(u:Int)+1:=by rw[IntKind.wrap_i64];omega
     have S2:Aside (SWK enc k w0 blk off (swp dk u (u+1)) ((wr.drew.setCells blk (off+u*k) (enc dk[u+1]!)).setCells blk (off+(u+1)*k) (enc dk[u]!))):=S1.out.2.swapped HR.out u (u+1) (by rw[HDS.out];omega) (by rw[HDS.out];omega)
     have l44a:=S1.out.2.ld1 HR.out (by rw[HDS.out,HS.out]) Tryz.prog u (by rw[HDS.out];omega)
     have l44b:=S1.out.2.ld1 HR.out (by rw[HDS.out,HS.out]) Tryz.prog (u+1) (by rw[HDS.out];omega)
     have s44a:=S1.out.2.st1 HR.out (by rw[HDS.out,HS.out]) Tryz.prog u (by rw[HDS.out];omega) dk[u+1]!
     have s44b:=S1.out.2.st2 HR.out (by rw[HDS.out,HS.out]) Tryz.prog u (u+1) (by rw[HDS.out];omega) (by rw[HDS.out];omega) dk[u+1]! dk[u]!
     have n44a:(enc dk[u]!).length=k:=HR.out.hk _
     have n44b:(enc dk[u+1]!).length=k:=HR.out.hk _
     generalize enc dk[u]! =cI44 at S2 l44a s44b n44a
     generalize enc dk[u+1]! =cJ44 at S2 l44b s44a s44b n44b
     clear S1
     go_wp2_with fail
     go_big_region_o
     clear l44a l44b s44a s44b
     generalize (wr.drew.setCells blk (off+u*k) cJ44).setCells blk (off+(u+1)*k) cI44=w2 at S2⊢
     go_wp2
     go_roundg (b-a-(u+1-a))
     case measure=>omega
     case rel=>exact⟨u+1,swp dk u (u+1),by go_num,by omega,by omega,by omega,⟨HU.out,S2.out⟩⟩
    ·have hlz:¬(u:Int)<(i:Int)-1:=by omega
     have HE:As (a+(u-a)=i-1):=⟨by omega⟩
     go_wp2
     (try simp only[Exit.inBlock,Exit.then]);refine bodyPost_ret (results_none rfl _ _ _) rfl ?_
     have hU:=S1.out.1
     have e9:=HE.out
     refine⟨rfl,dk,hU.perm a b (Nat.le_refl _) (by omega) hb, ?_,S1.out.2⟩
     obtain rfl:m=a+1:=by omega
     refine first_in HO.out (i:=i) ⟨by omega,hjb⟩ S2.out S4.out.1 S4.out.2 (fun x p q=>hU.mid x p (by omega)) ?_ (fun x p q=>hU.rest x (by omega))
     rw[<-e9]
     exact hU.at_
variable {α:Type} [Inhabited α]
theorem merge_last{enc:α->List Value}{k:Nat}{cf:α->α->Int}{g:Nat}{cb:Array Value}{blk off:Nat}{d0:Array α}{w0:World}(X:Srt enc k cf g cb blk off d0 w0)(cap a m b:Nat)(d:Array α)(w:World)
 (hs:d.size=d0.size) (S:SWK enc k w0 blk off d w) (ham:a+1<m) (hmb:m<b) (hmb2:b<=m+1) (hb:b<=d.size) (s2:SortedIn (ltOf cf) a m d):
 Calls Tryz.prog 120 #[.slice (some ⟨blk,off,none⟩) d.size cap,.int .i64 a,.int .i64 m,.int .i64 b,.func (.func g) #[] cb] w fun e w'=>e= .returned (.tuple #[])/\∃f,PermIn a b d f/\SortedIn (ltOf cf) a b f/\SWK enc k w0 blk off f w':=by
 have mixed:Tryz.prog.follows Departure.mixedOrders=true:=by kernel_rfl
 obtain⟨aE,zE,eg,hc,R,hO,hz⟩:=X
 have HC:Aside _:=hc
 have HR:Aside _:=R
 have HO:Aside _:=hO
 have S0:Aside (SWK enc k w0 blk off d w):=S
 have S2:Aside _:=s2
 have hsz:d.size<4611686018427387904:=by rw[hs];exact hz
 have HS:=As.mk hs
 clear S hc R hO s2 hs
 have e1:((m:Int)-(a:Int)==1)=false:=by simp;omega
 have e2:((b:Int)-(m:Int)==1)=true:=by simp;omega
 go_enter Tryz.func120,Tryz.ntmps120
 go_wp2
 go_loopg [14,15] (b-a) (fun kx s10 s11 wr=>∃(i j:Nat),s10= .int .i64 i/\s11= .int .i64 j/\a<=i/\i<=j/\j<=m/\j-i<=kx/\Aside ((∀x,a<=x->x<i->ltOf cf d[m]! d[x]! =false)/\(∀x,j<=x->x<m->ltOf cf d[m]! d[x]! =true)/\SWK enc k w0 blk off d wr))
 case atStart=>exact⟨a,m,rfl,rfl,by omega,by omega,by omega,by omega,⟨fun x h1 h2=>by omega,fun x h1 h2=>by omega,S0.out⟩⟩
 case round=>
  clear S0
  obtain⟨i,j,rfl,rfl,i1,hij,hjb,hkx,S1⟩:=hrel
  by_cases hlt:i<j
  ·have hltz:(i:Int)<(j:Int):=by omega
   obtain⟨h,hh⟩:∃h,(i+j)/2=h:=⟨_,rfl⟩
   have eh:((i:Int)+(j:Int))/2=(h:Int):=by omega
   have h1:i<=h:=by omega
   have h2:h<j:=by omega
   clear hh
   obtain⟨xh,hxh⟩:∃x,d[h]! =x:=⟨_,rfl⟩
   obtain⟨xa,hxa⟩:∃x,d[m]! =x:=⟨_,rfl⟩
   have jz:(h:Int)<(d.size:Int):=by omega
   have jz1:(m:Int)<(d.size:Int):=by omega
   have lh:=S1.out.2.2.ld HR.out HS.out Tryz.prog h (by omega)
   have la:=S1.out.2.2.ld HR.out HS.out Tryz.prog m (by omega)
   rw[hxh] at lh
   rw[hxa] at la
   have hcg:=S1.out.2.2.cmp HC.out HS.out xa xh
   have HX:Hid (d[h]! =xh/\d[m]! =xa):=⟨hxh,hxa⟩
   clear hxh hxa
   by_cases hlv:cf xa xh<0
   ·go_wp2_with fail
    clear eh
    go_quiet_grown (first|(go_at_fn g;refine Calls.grown_of (hcg _ _)))
    go_wp2
    go_roundg (h-i)
    case measure=>omega
    case rel=>
     refine⟨i,h,rfl,rfl,i1,by omega,by omega,Nat.le_refl _,⟨S1.out.1,fun x p q=> ?_,S1.out.2.2.grown nq osq⟩⟩
     have e:ltOf cf d[m]! d[h]! =true:=by rw[HX.out.1,HX.out.2];exact decide_eq_true hlv
     by_cases e2:x=h
     ·rw[e2];exact e
     ·cases e3:ltOf cf d[m]! d[x]! with
      |true=>rfl
      |false=>rw[HO.out.ntrans _ _ _ e3 (S2.out h x (by omega) (by omega) (by omega))] at e;cases e
   ·have hq:decide (cf xa xh<0)=false:=decide_eq_false hlv
    go_wp2_with fail
    clear eh
    go_quiet_grown (first|(go_at_fn g;refine Calls.grown_of (hcg _ _)))
    go_wp2
    go_roundg (j-(h+1))
    case measure=>omega
    case rel=>
     refine⟨h+1,j,by go_num,rfl,by omega,by omega,hjb,Nat.le_refl _,⟨fun x p q=> ?_,S1.out.2.1,S1.out.2.2.grown nq osq⟩⟩
     have e:ltOf cf d[m]! d[h]! =false:=by rw[HX.out.1,HX.out.2];exact decide_eq_false (by omega)
     by_cases e2:x=h
     ·rw[e2];exact e
     ·exact HO.out.ntrans _ _ _ e (S2.out x h p (by omega) (by omega))
  ·obtain rfl:i=j:=by omega
   have hltz:¬(i:Int)<(i:Int):=by omega
   have S3:Aside _:=S1.out.2.2
   have S4:=As.mk (And.intro S1.out.1 S1.out.2.1)
   clear S1 hlt
   go_wp2
   go_loopg [17] (b-a) (fun kx s13 wr=>∃(u:Nat) (dk:Array α),s13= .int .i64 u/\i<=u/\u<=m/\u-i<=kx/\Aside (Down m (m-u) d dk/\SWK enc k w0 blk off dk wr))
   case atStart=>exact⟨m,d,rfl,by omega,by omega,by omega,⟨by rw[Nat.sub_self];exact Down.zero m d,S3.out⟩⟩
   case round=>
    clear S3
    obtain⟨u,dk,rfl,hu,hn,hkx,S1⟩:=hrel
    by_cases hl:i<u
    ·have hlz:(i:Int)<(u:Int):=by omega
     have HU:As (Down m (m-(u-1)) d (swp dk u (u-1))):=⟨by
      have:=S1.out.1.step (by omega) (by omega)
      rwa[show m-(m-u)=u by omega,show m-u+1=m-(u-1) by omega] at this⟩
     clear hl
     have hub:u<d.size:=by omega
     obtain⟨v,hv⟩:∃v,u-1=v:=⟨_,rfl⟩
     rw[hv] at HU
     have hv1:u=v+1:=by omega
     have HV:=As.mk hv1
     have ev44:(u:Int)-1=(v:Int):=by omega
     have iv44:i<=v:=by omega
     have hvu:v<u:=by omega
     clear hv hv1
     have HDS:=As.mk S1.out.1.size
     have ea44:(u:Int).toNat=u:=by omega
     have pa44:(0:Int)<=(u:Int):=by omega
     have ba44:(u:Int)<(d.size:Int):=by omega
     have ec44:(v:Int).toNat=v:=by omega
     have pc44:(0:Int)<=(v:Int):=by omega
     have bc44:(v:Int)<(d.size:Int):=by omega
     have rc44:IntKind.i64.wrap ((u:Int)-1)=(v:Int):=by rw[IntKind.wrap_i64];omega
     have S2:Aside (SWK enc k w0 blk off (swp dk u v) ((wr.drew.setCells blk (off+u*k) (enc dk[v]!)).setCells blk (off+v*k) (enc dk[u]!))):=S1.out.2.swapped HR.out u v (by rw[HDS.out];omega) (by rw[HDS.out];omega)
     have l44a:=S1.out.2.ld1 HR.out (by rw[HDS.out,HS.out]) Tryz.prog u (by rw[HDS.out];omega)
     have l44b:=S1.out.2.ld1 HR.out (by rw[HDS.out,HS.out]) Tryz.prog v (by rw[HDS.out];omega)
     have s44a:=S1.out.2.st1 HR.out (by rw[HDS.out,HS.out]) Tryz.prog u (by rw[HDS.out];omega) dk[v]!
     have s44b:=S1.out.2.st2 HR.out (by rw[HDS.out,HS.out]) Tryz.prog u v (by rw[HDS.out];omega) (by rw[HDS.out];omega) dk[v]! dk[u]!
     have n44a:(enc dk[u]!).length=k:=HR.out.hk _
     have n44b:(enc dk[v]!).length=k:=HR.out.hk _
     generalize enc dk[u]! =cI44 at S2 l44a s44b n44a
     generalize enc dk[v]! =cJ44 at S2 l44b s44a s44b n44b
     clear S1
     go_wp2_with fail
     go_big_region_o
     clear l44a l44b s44a s44b
     generalize (wr.drew.setCells blk (off+u*k) cJ44).setCells blk (off+v*k) cI44=w2 at S2⊢
     go_wp2
     go_roundg (v-i)
     case measure=>omega
     case rel=>exact⟨v,swp dk u v,rfl,by omega,by omega,by omega,⟨HU.out,S2.out⟩⟩
    ·have hlz:¬(i:Int)<(u:Int):=by omega
     have HE:As (m-(m-u)=i):=⟨by omega⟩
     go_wp2
     (try simp only[Exit.inBlock,Exit.then]);refine bodyPost_ret (results_none rfl _ _ _) rfl ?_
     have hU:=S1.out.1
     have e9:=HE.out
     refine⟨rfl,dk,hU.perm a b (by omega) (by omega) hb, ?_,S1.out.2⟩
     obtain rfl:b=m+1:=by omega
     refine last_in HO.out (i:=i) ⟨i1,hjb⟩ S2.out S4.out.1 S4.out.2 (fun x p q=>hU.rest x (by omega)) ?_ (fun x p q=>hU.mid x (by omega) q)
     have:=hU.at_
     rwa[e9] at this
end Go.Proofs.YtdiljpdohmeceaaGreat.so
namespace Go.Proofs.YtdiljpdohmeceaaGreat.so
open Go.Sort
variable {α:Type} [Inhabited α] {lt:α->α->Bool}
theorem Rot.none{a m b:Nat}(d:Array α)(h:a=m\/m=b)(h3:m<=b):Rot a m b d d:=by
 refine⟨rfl,fun x p q=> ?_,fun x p q=> ?_,fun _ _=>rfl⟩
 ·rcases h with h|h
  ·rw[show x+(m-a)=x by omega]
  ·omega
 ·rcases h with h|h
  ·omega
  ·rw[show x-(b-m)=x by omega]
structure Bnd(a m b mid s0 r0:Nat):Prop where
 am:a<m
 mb:m<b
 md:2*mid<=a+b/\a+b<=2*mid+1
 sr:(mid<m/\s0+b=mid+m/\r0=mid)\/(m<=mid/\s0=a/\r0=m)
theorem Bnd.mk'(a m b mid:Nat)(am:a<m)(mb:m<b)(h:2*mid<=a+b/\a+b<=2*mid+1):∃s0 r0,Bnd a m b mid s0 r0:=by
 by_cases e:mid<m
 ·exact⟨mid+m-b,mid,am,mb,h,.inl ⟨e,by omega,rfl⟩⟩
 ·exact⟨a,m,am,mb,h,.inr ⟨by omega,rfl,rfl⟩⟩
theorem Bnd.in_{a m b mid s0 r0:Nat}(h:Bnd a m b mid s0 r0){x:Nat}(h1:s0<=x)(h2:x<r0):a<=x/\x<m/\m<=mid+m-1-x/\mid+m-1-x<b/\x+1<=mid+m/\x<mid:=by
 obtain⟨_,_,_,sr⟩:=h
 omega
theorem Bnd.le{a m b mid s0 r0:Nat}(h:Bnd a m b mid s0 r0):s0<=r0/\a<=s0/\r0<=m/\r0<=mid/\a<mid/\mid<b:=by
 obtain⟨_,_,_,sr⟩:=h
 omega
structure Fnd(lt:α->α->Bool)(a m b mid s0 r0 i j:Nat)(d:Array α):Prop where
 ij:s0<=i/\i<=j/\j<=r0
 lo:∀x,s0<=x->x<i->lt d[mid+m-1-x]! d[x]! =false
 hi:∀x,j<=x->x<r0->lt d[mid+m-1-x]! d[x]! =true
theorem Fnd.zero{a m b mid s0 r0:Nat}(B:Bnd a m b mid s0 r0)(d:Array α):Fnd lt a m b mid s0 r0 s0 r0 d:=⟨⟨Nat.le_refl _,B.le.1,Nat.le_refl _⟩,fun x _ _=>by omega,fun x _ _=>by omega⟩
theorem Fnd.up(hO:SWO lt){a m b mid s0 r0 i j h:Nat}{d:Array α}(F:Fnd lt a m b mid s0 r0 i j d)(B:Bnd a m b mid s0 r0)(s1:SortedIn lt a m d)(s2:SortedIn lt m b d)(h1:i<=h)(h2:h<j)(e:lt d[mid+m-1-h]! d[h]! =false):Fnd lt a m b mid s0 r0 (h+1) j d:=by
 have hf:=F.ij
 refine⟨by omega,fun x p q=> ?_,F.hi⟩
 by_cases c:x=h
 ·rw[c];exact e
 ·have b1:=B.in_ (x:=x) p (by omega)
  have b2:=B.in_ (x:=h) (by omega) (by omega)
  exact hO.ntrans _ _ _ (s2 _ _ b2.2.2.1 (by omega) b1.2.2.2.1) (hO.ntrans _ _ _ e (s1 x h b1.1 (by omega) b2.2.1))
theorem Fnd.down(hO:SWO lt){a m b mid s0 r0 i j h:Nat}{d:Array α}(F:Fnd lt a m b mid s0 r0 i j d)(B:Bnd a m b mid s0 r0)(s1:SortedIn lt a m d)(s2:SortedIn lt m b d)(h1:i<=h)(h2:h<j)(e:lt d[mid+m-1-h]! d[h]! =true):Fnd lt a m b mid s0 r0 i h d:=by
 have hf:=F.ij
 refine⟨by omega,F.lo,fun x p q=> ?_⟩
 by_cases c:x=h
 ·rw[c];exact e
 ·have b1:=B.in_ (x:=x) (by omega) q
  have b2:=B.in_ (x:=h) (by omega) (by omega)
  cases e3:lt d[mid+m-1-x]! d[x]! with
  |true=>rfl
  |false=>
   have k1:=hO.ntrans _ _ _ (s2 (mid+m-1-x) (mid+m-1-h) b1.2.2.1 (by omega) b2.2.2.2.1) e3
   have k2:=hO.ntrans _ _ _ k1 (s1 h x b2.1 (by omega) b1.2.1)
   rw[k2] at e
   cases e
theorem Fnd.cut(hO:SWO lt){a m b mid s0 r0 st en:Nat}{d:Array α}(F:Fnd lt a m b mid s0 r0 st st d)(B:Bnd a m b mid s0 r0)(s1:SortedIn lt a m d)(s2:SortedIn lt m b d)(he:st+en=mid+m):Cutp lt a m b mid st en d:=by
 have hf:=F.ij
 have hl:=B.le
 have hb:=B.sr
 have hm:=B.md
 have h1:=B.am
 have h2:=B.mb
 refine⟨by omega,by omega,he,by omega,fun x y p q r s=> ?_,fun x y p q r s=> ?_⟩
 ·have e:=F.lo (st-1) (by omega) (by omega)
  rw[show mid+m-1-(st-1)=en by omega] at e
  have k1:lt d[y]! d[st-1]! =false:=by
   by_cases c:y=en
   ·rw[c];exact e
   ·exact hO.ntrans _ _ _ (s2 en y (by omega) (by omega) s) e
  by_cases c:x=st-1
  ·rw[c];exact k1
  ·exact hO.ntrans _ _ _ k1 (s1 x (st-1) p (by omega) (by omega))
 ·have e:=F.hi st (Nat.le_refl _) (by omega)
  rw[show mid+m-1-st=en-1 by omega] at e
  cases e3:lt d[y]! d[x]! with
  |true=>rfl
  |false=>
   have k1:lt d[en-1]! d[x]! =false:=by
    by_cases c:y=en-1
    ·rw[<-c];exact e3
    ·exact hO.ntrans _ _ _ (s2 y (en-1) r (by omega) (by omega)) e3
   have k2:lt d[en-1]! d[st]! =false:=by
    by_cases c:x=st
    ·rw[<-c];exact k1
    ·exact hO.ntrans _ _ _ k1 (s1 st x (by omega) (by omega) q)
   rw[k2] at e
   cases e
end Go.Proofs.YtdiljpdohmeceaaGreat.so
