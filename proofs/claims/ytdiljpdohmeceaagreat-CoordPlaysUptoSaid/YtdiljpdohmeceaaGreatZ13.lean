/- Words and walks that this claim rests on: proved lemmas alone. -/
import Derived.Test.YtdiljpdohmeceaaGreatZ12
set_option maxHeartbeats 16000000
set_option maxRecDepth 100000
namespace Go.Proofs.YtdiljpdohmeceaaGreat.co
open Go.RowKit H O opk frame wir
theorem messages_any(S1 S2:List Nat)(w:World)(av bv:Value)(ms:List Msg)(n:Nat)(hn:ms.length=n)(ha:OutI S1 w av ms)(hb:OutI S2 w bv ms)(h9:n<=1000000):
 Calls Tryz.prog 96 #[av,bv] w fun e w'=>e= .returned (.bool true)/\∃q,w'=w.drewN q:=by
 obtain⟨A1,c1,rfl,_⟩:=ha.form
 obtain⟨A2,c2,rfl,_⟩:=hb.form
 rw[hn] at ha hb⊢
 have HA:=As.mk ha
 have HB:=As.mk hb
 have HN:=As.mk hn
 have nb:((n:Int) !=(n:Int))=false:=by simp
 clear ha hb hn
 go_enter Tryz.func96,Tryz.ntmps96
 go_wp2_with fail
 go_loopw [5] (fun v wr=>∃k:Nat,v= .int .i64 (k:Int)/\k<=n/\As (∃q,wr=w.drewN q)) (fun v _=>n-(intOf v).toNat)
 case atStart=>exact⟨0,rfl,by omega,⟨0,rfl⟩⟩
 case round=>
  obtain⟨k,rfl,hk,HW⟩:=hrel
  by_cases hlt:k<n
  ·have i1:(k:Int)<(n:Int):=by omega
   have i0:(0:Int)<=(k:Int):=by omega
   obtain⟨m,hm⟩:∃m,ms[k]?=some m:=⟨_,List.getElem?_eq_getElem (by rw[HN.out];exact hlt)⟩
   obtain⟨g1,d1,e1,_⟩:=HA.out.pos (by rw[HN.out];omega)
   obtain⟨g2,d2,e2,_⟩:=HB.out.pos (by rw[HN.out];omega)
   rw[HN.out] at e1 e2
   simp only[Value.slice.injEq,true_and] at e1 e2
   obtain⟨rfl,rfl⟩:=e1
   obtain⟨rfl,rfl⟩:=e2
   have kr:Kp [] w wr:=by
    obtain⟨q,e⟩:=HW.out
    rw[e];exact(Kp.refl [] w).drewN q
   obtain⟨x1,p0,p1,p2,px⟩:=HA.out.at hm
   obtain⟨x2,q0,q1,q2,qx⟩:=HB.out.at hm
   obtain⟨B1,b1,rfl,r1,l1,hb1⟩:=px
   obtain⟨B2,b2,rfl,r2,l2,_⟩:=qx
   have p0:=kr.cell p0 (by simp)
   have p1:=kr.cell p1 (by simp)
   have p2:=kr.cell p2 (by simp)
   have q0:=kr.cell q0 (by simp)
   have q1:=kr.cell q1 (by simp)
   have q2:=kr.cell q2 (by simp)
   obtain⟨frm,dst,data⟩:=m
   have ef:(frm !=frm)=false:=by simp
   have ed:(dst !=dst)=false:=by simp
   obtain⟨nd,hnd⟩:∃nd,data.length=nd:=⟨_,rfl⟩
   have HS:As (∀wX,Kp [] wr wX->Calls Tryz.prog 14 #[.slice B1 nd b1,.slice B2 nd b2] wX fun e w'=>e= .returned (.bool true)/\∃q,w'=wX.drewN q):=⟨fun wX kX=>by
    have h:=haystacklaw24.same_any B1 B2 nd b1 nd b2 data data wX hnd hnd ((r1.kp kr (by simp)).kp kX (by simp)).rd ((r2.kp kr (by simp)).kp kX (by simp)).rd (by have:data.length<=b1:=l1;have:=hb1.1;omega)
    rw[decide_eq_true rfl] at h
    exact h⟩
   have HW2:As (∀q2,∃q,wr.drewN q2=w.drewN q):=⟨fun q2=>by
    obtain⟨q,e⟩:=HW.out
    exact⟨q+q2,by rw[e,World.drewN_drewN]⟩⟩
   clear r1 r2 l1 l2 kr hm hb1
   go_wp2_with fail
   go_quiet ((go_at_call 14;refine Calls.quiet_of (HS.out _ (by first|exact Kp.refl _ _|exact(Kp.refl [] _).drewN _))))
   go_wp2_with fail
   go_roundw
   case rel=>exact⟨k+1,by go_num,by omega,⟨HW2.out _⟩⟩
   case measure=>simp[intOf];omega
  ·have i1:¬(k:Int)<(n:Int):=by omega
   go_wp2_with fail
   go_ret
   exact⟨rfl,HW.out⟩
open cr (RLay RsSt RNewJ RGrew)
def WayI(S:List Nat)(w:World)(v:Value)(ms:List Msg):Prop:=∃vs,RowO w 44 3 v ms.length vs/\(∀g,v.ownBlock=some g->g∉S)/\MsOk (v.ownBlock.toList++S) w ms vs
theorem WayI.nil(S:List Nat)(w:World):WayI S w (.slice none 0 0) []:=⟨[],.inl ⟨rfl,rfl,rfl⟩,by simp[Value.ownBlock],rfl⟩
theorem WayI.kp{S S2 V:List Nat}{w w1:World}{v:Value}{ms:List Msg}(h:WayI S w v ms)(k:Kp V w w1)(hV:∀x∈V,x∈S\/w.heap.size<=x)(hS:∀x∈S2,x∈S\/w.heap.size<=x):WayI S2 w1 v ms:=by
 obtain⟨vs,h1,h2,h3⟩:=h
 refine⟨vs,h1.kp k (fun g hg hm=> ?_),fun g hg hm=> ?_,h3.kp k (fun x hx=>(hV x hx).imp (fun e=>List.mem_append.2 (.inr e)) id) (fun x hx=> ?_)⟩
 ·have:=h1.lt g hg
  rcases hV g hm with e|e
  ·exact h2 g hg e
  ·omega
 ·have:=h1.lt g hg
  rcases hS g hm with e|e
  ·exact h2 g hg e
  ·omega
 ·rcases List.mem_append.1 hx with e|e
  ·exact .inl (List.mem_append.2 (.inl e))
  ·exact(hS x e).imp (fun e=>List.mem_append.2 (.inr e)) id
theorem MsOk.app{S:List Nat}{w:World}{l2:List Msg}{vs2:List Value}(h2:MsOk S w l2 vs2):∀{l:List Msg} {vs:List Value},MsOk S w l vs->MsOk S w (l++l2) (vs++vs2)
 |[],vs,h=>by
  obtain rfl:vs=[]:=h
  exact h2
 |_::_,_,⟨p,q,h1,h3,h4⟩=>by
  subst h1
  exact⟨p,q++vs2,by simp,h3,MsOk.app h2 h4⟩
theorem MsOk.drop{S:List Nat}{w:World}:∀{l:List Msg} {vs:List Value} (k:Nat),MsOk S w l vs->MsOk S w (l.drop k) (vs.drop (k*3))
 |l,vs,0,h=>by simpa using h
 |[],vs,k+1,h=>by
  obtain rfl:vs=[]:=h
  simp;rfl
 |_::l,_,k+1,⟨p,q,h1,_,h3⟩=>by
  subst h1
  rw[show(k+1)*3=k*3+3 by omega]
  exact MsOk.drop k h3
theorem MsOk.one{S:List Nat}{w:World}:∀{l:List Msg} {vs:List Value},MsOk S w l vs->∀u∈vs,u.oneCell'=true
 |[],vs,h,u,hu=>by
  obtain rfl:vs=[]:=h
  simp at hu
 |_::l,_,⟨p,q,h1,h2,h3⟩,u,hu=>by
  subst h1
  obtain⟨A,c,rfl,_⟩:=h2
  simp only[List.cons_append,List.nil_append,List.mem_cons] at hu
  rcases hu with rfl|rfl|rfl|hu
  ·rfl
  ·rfl
  ·rfl
  ·exact MsOk.one h3 u hu
theorem WayI.more{S:List Nat}{w w2:World}{v v2 bv:Value}{ms m2:List Msg}{vs vb:List Value}(hS:∀x∈S,x<w.heap.size)(hv:∀g,v.ownBlock=some g->g∉S)(hm:MsOk (v.ownBlock.toList++S) w ms vs)(hb:MsOk (bv.ownBlock.toList++(v.ownBlock.toList++S)) w m2 vb)
 (o2:RowO w2 44 3 v2 (ms++m2).length (vs++vb)) (k2:Kp v.ownBlock.toList w w2) (a2:At w.heap.size v.ownBlock v2.ownBlock):WayI S w2 v2 (ms++m2):=by
 have hg:∀g,v2.ownBlock=some g->v.ownBlock=some g\/w.heap.size<=g:=fun g e=>by
  rcases a2 with e2|⟨y,e2,hy⟩
  ·rw[e2] at e;exact .inl e
  ·rw[e2] at e;cases e;exact .inr hy
 have hs2:∀x∈v2.ownBlock.toList++S,x∈v.ownBlock.toList++S\/w.heap.size<=x:=fun x hx=>by
  rcases List.mem_append.1 hx with e|e
  ·exact(hg x (by simpa using e)).imp (fun e=>List.mem_append.2 (.inl (by simpa using e))) id
  ·exact .inl (List.mem_append.2 (.inr e))
 refine⟨vs++vb,o2,fun g e hm=> ?_,MsOk.app (hb.kp k2 (fun x hx=> .inl (List.mem_append.2 (.inr (List.mem_append.2 (.inl hx))))) (fun x hx=>(hs2 x hx).imp (fun e=>List.mem_append.2 (.inr e)) id)) (hm.kp k2 (fun x hx=> .inl (List.mem_append.2 (.inl hx))) hs2)⟩
 rcases hg g e with e2|e2
 ·exact hv g e2 hm
 ·have:=hS g hm;omega
theorem WayI.drop{S:List Nat}{w:World}{b o n c:Nat}{ms:List Msg}(h:WayI S w (.slice (some ⟨b,o,none⟩) n c) ms)(hn:ms.length=n)(k:Nat)(hk:k<=n):WayI S w (.slice (some ⟨b,o+k*3,none⟩) (n-k) (c-k)) (ms.drop k):=by
 obtain⟨vs,h1,h2,h3⟩:=h
 rw[hn] at h1
 refine⟨vs.drop (k*3), ?_,h2,h3.drop k⟩
 rw[List.length_drop,hn]
 exact h1.drop k hk
theorem WayI.form{S:List Nat}{w:World}{v:Value}{ms:List Msg}(h:WayI S w v ms):∃A c,v= .slice A ms.length c/\ms.length<=c/\(A=none->c=0):=by
 obtain⟨vs,h1,_⟩:=h
 exact h1.form
def wayN(ms m2:List Msg):List Msg:=if 60<(ms++m2).length then(ms++m2).drop 30 else ms++m2
def S0(P:Nat)(L:Lay)(M:RLay)(U:List Nat):List Nat:=P::(L.all++(M.all++U))
structure PairW(U:List Nat)(w:World)(P:Nat)(L:Lay)(M:RLay)(cf:Cfg)(s:Cs)(WV:Value)(ms:List Msg):Prop where
 pr:PairP (WV.ownBlock.toList++U) w P L M cf s s WV
 way:WayI (S0 P L M U) w WV ms
theorem PairW.lt{U:List Nat}{w:World}{P:Nat}{L:Lay}{M:RLay}{cf:Cfg}{s:Cs}{WV:Value}{ms:List Msg}(h:PairW U w P L M cf s WV ms):∀x∈S0 P L M U,x<w.heap.size:=by
 intro x hx
 unfold S0 at hx
 have h1:=h.pr.c.lt
 simp only[List.mem_cons,List.mem_append] at hx h1
 rcases hx with e|e|e|e
 ·exact h1 x (.inr (.inl e))
 ·exact h1 x (.inl e)
 ·exact h1 x (.inr (.inr (.inl e)))
 ·exact h1 x (.inr (.inr (.inr (.inr e))))
theorem PairW.kp0{U:List Nat}{w w1:World}{P:Nat}{L:Lay}{M:RLay}{cf:Cfg}{s:Cs}{WV:Value}{ms:List Msg}(h:PairW U w P L M cf s WV ms)(k:Kp [] w w1):PairW U w1 P L M cf s WV ms:=⟨h.pr.kp k (by simp) (by simp),h.way.kp k (by simp) (fun x hx=> .inl hx)⟩
theorem PairP.turn{U:List Nat}{w w7:World}{P:Nat}{L:Lay}{M:RLay}{cf:Cfg}{s:Cs}{WV v7:Value}(h:PairP (WV.ownBlock.toList++U) w P L M cf s s WV)(hP:∀g,WV.ownBlock=some g->g≠P)(k:Kp WV.ownBlock.toList w w7)(hg:∀g,v7.ownBlock=some g->WV.ownBlock=some g\/w.heap.size<=g/\g<w7.heap.size):
 PairP (v7.ownBlock.toList++U) (w7.setCell ⟨P,2,none⟩ v7) P L M cf s s v7/\w7.cell? ⟨P,2,none⟩=some WV/\w7.frozen? ⟨P,2,none⟩=false:=by
 have hnP:P∉WV.ownBlock.toList:=fun e=>hP P (by simpa using e) rfl
 have hb:=k.blk h.hd hnP
 have kS:Kp [P] w7 (w7.setCell ⟨P,2,none⟩ v7):=(Kp.refl _ w7).setCell (.inl (by simp)) _
 have hU:∀x∈v7.ownBlock.toList++U,x∈WV.ownBlock.toList++U\/w.heap.size<=x/\x<w7.heap.size:=fun x hx=>by
  rcases List.mem_append.1 hx with e|e
  ·exact(hg x (by simpa using e)).imp (fun e=>List.mem_append.2 (.inl (by simpa using e))) id
  ·exact .inl (List.mem_append.2 (.inr e))
 refine⟨⟨heap_setCell_same w7 P 2 _ _ v7 hb, ?_, ?_⟩,bkc hb 2 rfl,blk_free hb 2⟩
 ·have h1:CoSt (P::(M.all++(v7.ownBlock.toList++U))) w7 L cf s:=h.c.kp k (fun x hx=> .inl (by simp only[List.mem_cons,List.mem_append];exact .inr (.inr (.inl hx)))) (fun x hx=>by
   rcases List.mem_cons.1 hx with e|e
   ·exact .inl (by simp[e])
   ·rcases List.mem_append.1 e with e|e
    ·exact .inl (List.mem_cons_of_mem _ (List.mem_append.2 (.inl e)))
    ·exact(hU x e).imp (fun e=>List.mem_cons_of_mem _ (List.mem_append.2 (.inr e))) id)
  exact h1.kp kS (fun x hx=> .inl (by simp at hx;simp[hx])) (fun x hx=> .inl hx)
 ·have h1:RsSt (P::(L.all++(v7.ownBlock.toList++U))) w7 M cf s:=h.x.kp k (fun x hx=> .inl (by simp only[List.mem_cons,List.mem_append];exact .inr (.inr (.inl hx)))) (fun x hx=>by
   rcases List.mem_cons.1 hx with e|e
   ·exact .inl (by simp[e])
   ·rcases List.mem_append.1 e with e|e
    ·exact .inl (List.mem_cons_of_mem _ (List.mem_append.2 (.inl e)))
    ·exact(hU x e).imp (fun e=>List.mem_cons_of_mem _ (List.mem_append.2 (.inr e))) id)
  exact h1.kp kS (fun x hx=> .inl (by simp at hx;simp[hx])) (fun x hx=> .inl hx)
theorem sent_any(U:List Nat)(w:World)(P:Nat)(L:Lay)(M:RLay)(cf:Cfg)(s:Cs)(WV av bv:Value)(ms m2:List Msg)(h:PairW U w P L M cf s WV ms)(ha:OutI (WV.ownBlock.toList++S0 P L M U) w av m2)(hb:OutI (WV.ownBlock.toList++S0 P L M U) w bv m2)(hm9:ms.length<=60)(h29:m2.length<=1000)(hj9:s.ended+s.jobs.length<=1000000):
 Calls Tryz.prog 65 #[.pointer (some ⟨P,0,none⟩),av,bv] w fun e w'=>e= .returned (.bool true)/\∃WV',PairW U w' P L M cf s WV' (wayN ms m2)/\Kp (P::WV.ownBlock.toList) w w'/\(∀g,WV'.ownBlock=some g->WV.ownBlock=some g\/w.heap.size<=g):=by
 obtain⟨AW,cW,rfl,_⟩:=h.way.form
 obtain⟨A1,c1,rfl,_⟩:=ha.form
 obtain⟨A2,c2,rfl,hc2,hn2⟩:=hb.form
 obtain⟨n,hn⟩:∃n,ms.length=n:=⟨_,rfl⟩
 obtain⟨m,hm⟩:∃n,m2.length=n:=⟨_,rfl⟩
 rw[hn] at h hm9 ha hb⊢
 rw[hm] at ha hb h29⊢
 obtain⟨vs,q1,q2,q3⟩:=id h.way
 rw[hn] at q1
 obtain⟨vb,b1,b2,b3⟩:=id hb
 rw[hm] at b1
 have hrd:Rd w A2 vb:=by
  obtain⟨_,_,e,_,_,r,_⟩:=own_rd b1
  cases e
  exact r
 have hlb:vb.length=m*3:=by have:=b1.1;omega
 have hnP:∀g,(Value.slice AW n cW).ownBlock=some g->g≠P:=fun g e e2=>q2 g e (by simp[S0,e2])
 have hlt:=h.lt
 have hWlt:=q1.lt
 have p2:w.cell? ⟨P,2,none⟩=some (.slice AW n cW):=bkc h.pr.hd 2 rfl
 have lP:=World.block_lt_of_cell? w _ p2
 have HF:As (∀v7 w7,RowO w7 44 3 v7 (n+m) (vs++vb)->Kp (Value.slice AW n cW).ownBlock.toList w w7->H.At w.heap.size (Value.slice AW n cW).ownBlock v7.ownBlock->
  ∃A7 c7,v7= .slice A7 (n+m) c7/\w7.cell? ⟨P,2,none⟩=some (.slice AW n cW)/\w7.frozen? ⟨P,2,none⟩=false/\(w7.setCell ⟨P,2,none⟩ v7).cell? ⟨P,2,none⟩=some v7/\(w7.setCell ⟨P,2,none⟩ v7).frozen? ⟨P,2,none⟩=false/\
   As (PairW U (w7.setCell ⟨P,2,none⟩ v7) P L M cf s v7 (ms++m2)/\Kp (P::(Value.slice AW n cW).ownBlock.toList) w (w7.setCell ⟨P,2,none⟩ v7)/\(∀g,v7.ownBlock=some g->(Value.slice AW n cW).ownBlock=some g\/w.heap.size<=g)/\
    OutI (S0 P L M U) (w7.setCell ⟨P,2,none⟩ v7) (.slice A1 m c1) m2/\OutI (S0 P L M U) (w7.setCell ⟨P,2,none⟩ v7) (.slice A2 m c2) m2)):=⟨fun v7 w7 o7 k7 a7=>by
  have hg:∀g,v7.ownBlock=some g->(Value.slice AW n cW).ownBlock=some g\/w.heap.size<=g/\g<w7.heap.size:=fun g e=>by
   have:=o7.lt g e
   rcases a7 with e2|⟨y,e2,hy⟩
   ·rw[e2] at e;exact .inl e
   ·rw[e2] at e;cases e;exact .inr ⟨hy,this⟩
  obtain⟨t1,t2,t3⟩:=h.pr.turn hnP k7 hg
  have hw7:=WayI.more (S:=S0 P L M U) hlt q2 q3 b3 (by rw[List.length_append,hn,hm];exact o7) k7 a7
  have kS:Kp [P] w7 (w7.setCell ⟨P,2,none⟩ v7):=(Kp.refl _ w7).setCell (.inl (by simp)) _
  have kA:Kp (P::(Value.slice AW n cW).ownBlock.toList) w (w7.setCell ⟨P,2,none⟩ v7):=(k7.mono (fun x hx=> .inl (List.mem_cons_of_mem _ hx))).trans kS (fun x hx=> .inl (by simp at hx;simp[hx]))
  have hVo:∀x∈P::(Value.slice AW n cW).ownBlock.toList,x∈(Value.slice AW n cW).ownBlock.toList++S0 P L M U\/w.heap.size<=x:=fun x hx=>by
   rcases List.mem_cons.1 hx with e|e
   ·exact .inl (List.mem_append.2 (.inr (by simp[S0,e])))
   ·exact .inl (List.mem_append.2 (.inl e))
  obtain⟨A7,c7,rfl,_⟩:=o7.form
  refine⟨A7,c7,rfl,t2,t3,World.cell?_setCell_same _ _ _ t2,by rw[World.frozen?_setCell];exact t3,⟨⟨t1,hw7.kp kS (fun x hx=> .inl (by simp at hx;simp[hx,S0])) (fun x hx=> .inl hx)⟩,kA,fun g e=>(hg g e).imp id (fun e=>e.1),ha.kp kA hVo (fun x hx=> .inl (List.mem_append.2 (.inr hx))),hb.kp kA hVo (fun x hx=> .inl (List.mem_append.2 (.inr hx)))⟩⟩⟩
 have HQ:=As.mk q1
 have HRD:=As.mk hrd
 have HN2:=As.mk hn2
 have HL:=As.mk hlb
 have HO:=As.mk b3.one
 have HE:=As.mk (And.intro hn hm)
 clear h ha hb q1 q2 q3 b1 b2 b3 hrd hlb hnP hlt hWlt hc2 hn2 hn hm
 go_enter Tryz.func65,Tryz.ntmps65
 go_upto_region 2 with(at_builtin;refine wpList_rowo rfl (.tmp 11) (.tmp 12) 31 rfl 44 (.agg #[.int .i64 0,.int .i64 0,.slice none 0 0]) 3 40 Tryz.underlying31 info_msg rfl (by decide) (.slice AW n cW) n vs rfl HQ.out A2 m c2 vb rfl HL.out HRD.out HN2.out HO.out (by omega) (by omega) ?_;intro v7 w7 o7 k7 a7;obtain⟨A7,c7,rfl,d2,f2,d3,f3,HZ⟩:=HF.out v7 w7 o7 k7 a7;clear o7 k7 a7 HF)
 obtain⟨w8,hw8⟩:∃w8,w7.setCell ⟨P,2,none⟩ (.slice A7 (n+m) c7)=w8:=⟨_,rfl⟩
 rw[hw8] at d3 f3 HZ⊢
 clear d2 f2 hw8 p2
 obtain⟨N,hN⟩:∃N,n+m=N:=⟨_,rfl⟩
 rw[hN] at d3 HZ⊢
 obtain⟨nj,hnj⟩:∃nj,s.jobs.length=nj:=⟨_,rfl⟩
 have HEND:As (∀w9 V msX,PairW U w9 P L M cf s V msX->OutI (S0 P L M U) w9 (.slice A1 m c1) m2->OutI (S0 P L M U) w9 (.slice A2 m c2) m2->∀wX,Kp [] w9 wX->
  Calls Tryz.prog 96 #[.slice A1 m c1,.slice A2 m c2] wX (fun e w'=>e= .returned (.bool true)/\∃q,w'=wX.drewN q)/\
  Calls Tryz.prog 10 #[.pointer (some ⟨L.b,0,none⟩)] wX (fun e w'=>e= .returned (.int .i64 (nj:Int))/\w'=wX)/\
  Calls Tryz.prog 69 #[.pointer (some ⟨M.b,0,none⟩)] wX (fun e w'=>e= .returned (.int .i64 (nj:Int))/\∃q,w'=wX.drewN q)):=⟨fun w9 V msX h9 o1 o2 wX kX=>by
  have hX:=h9.kp0 kX
  rw[<-hnj]
  exact⟨messages_any (S0 P L M U) (S0 P L M U) wX _ _ m2 m HE.out.2 (o1.kp kX (by simp) (fun x hx=> .inl hx)) (o2.kp kX (by simp) (fun x hx=> .inl hx)) (by omega),left_any _ wX L cf s hX.pr.c,cr.left_any _ wX M cf s hX.pr.x hj9⟩⟩
 clear hnj HQ HRD HN2 HL HO
 by_cases h60:60<N
 ·
  have i1:(60:Int)<(N:Int):=by omega
  obtain⟨b7,o7,e7,hc7⟩:∃b o,A7=some ⟨b,o,none⟩/\N<=c7:=by
   obtain⟨vs7,r1,_⟩:=HZ.out.1.way
   rw[List.length_append,HE.out.1,HE.out.2,hN] at r1
   obtain⟨b,o,c,e,hc,_⟩:=r1.cell (by omega)
   simp only[Value.slice.injEq,true_and] at e
   exact⟨b,o,e.1,by omega⟩
  subst e7
  have i2:(30:Int)<=(N:Int):=by omega
  have i3:(30:Int)<=(c7:Int):=by omega
  have i4:(N:Int)<=(c7:Int):=by omega
  go_upto_region 3 with fail
  go_upto_region 4 with fail
  obtain⟨w9,hw9⟩:∃w9,w8.setCell ⟨P,2,none⟩ (.slice (some ⟨b7,o7+90,none⟩) (N-30) (c7-30))=w9:=⟨_,rfl⟩
  rw[hw9]
  have hml:(ms++m2).length=N:=by rw[List.length_append,HE.out.1,HE.out.2,hN]
  have hbP:∀g,(Value.slice (some ⟨b7,o7,none⟩) N c7).ownBlock=some g->g≠P:=fun g e e2=>by
   obtain⟨_,_,r2,_⟩:=HZ.out.1.way
   exact r2 g e (by simp[S0,e2])
  obtain⟨t1,_,_⟩:=HZ.out.1.pr.turn hbP (Kp.refl _ w8) (v7:= .slice (some ⟨b7,o7+90,none⟩) (N-30) (c7-30)) (fun g e=> .inl e)
  have kS:Kp [P] w8 w9:=by rw[<-hw9];exact(Kp.refl _ w8).setCell (.inl (by simp)) _
  have hVs:∀x∈[P],x∈S0 P L M U\/w8.heap.size<=x:=fun x hx=> .inl (by simp at hx;simp[hx,S0])
  have hw:=(HZ.out.1.way.drop hml 30 (by omega)).kp kS hVs (fun x hx=> .inl hx)
  rw[hw9] at t1
  have hP9:PairW U w9 P L M cf s (.slice (some ⟨b7,o7+90,none⟩) (N-30) (c7-30)) ((ms++m2).drop 30):=⟨t1,hw⟩
  have hE:=HEND.out w9 _ _ hP9 (HZ.out.2.2.2.1.kp kS hVs (fun x hx=> .inl hx)) (HZ.out.2.2.2.2.kp kS hVs (fun x hx=> .inl hx))
  have HM:=As.mk (fun wX kX=>(hE wX kX).1)
  have HA:=As.mk (fun wX kX=>(hE wX kX).2.1)
  have HB:=As.mk (fun wX kX=>(hE wX kX).2.2)
  have p0:=bkc hP9.pr.hd 0 rfl
  have p1:=bkc hP9.pr.hd 1 rfl
  have hwn:wayN ms m2=(ms++m2).drop 30:=by rw[wayN,if_pos (by rw[hml];omega)]
  have HWN:=As.mk hwn
  have HP9:=As.mk hP9
  have HKF:As (Kp (P::(Value.slice AW n cW).ownBlock.toList) w w9):=⟨HZ.out.2.1.trans kS (fun x hx=> .inl (by simp at hx;simp[hx]))⟩
  have HOG:As (∀g,(Value.slice (some ⟨b7,o7+90,none⟩) (N-30) (c7-30)).ownBlock=some g->(Value.slice AW n cW).ownBlock=some g\/w.heap.size<=g):=⟨fun g e=>HZ.out.2.2.1 g e⟩
  clear HEND hwn h60 hN f3 hP9 hE t1 hw kS hVs hbP hml hw9 d3 i1 i2 i3 i4 hc7
  go_quiet (first
   |(go_at_call 96;refine Calls.quiet_of (HM.out _ (by first|exact Kp.refl _ _|exact(Kp.refl [] w9).drewN _)))
   |(go_at_call 10;refine Calls.quiet_of_same (HA.out _ (by first|exact Kp.refl _ _|exact(Kp.refl [] w9).drewN _)))
   |(go_at_call 69;refine Calls.quiet_of (HB.out _ (by first|exact Kp.refl _ _|exact(Kp.refl [] w9).drewN _))))
  go_wp2_with fail
  go_ret
  refine⟨rfl,_, ?_,HKF.out.drewN _,HOG.out⟩
  rw[HWN.out]
  exact HP9.out.kp0 ((Kp.refl [] w9).drewN _)
 ·have i1:¬(60:Int)<(N:Int):=by omega
  have HM:=As.mk (fun wX kX=>(HEND.out w8 _ _ HZ.out.1 HZ.out.2.2.2.1 HZ.out.2.2.2.2 wX kX).1)
  have HA:=As.mk (fun wX kX=>(HEND.out w8 _ _ HZ.out.1 HZ.out.2.2.2.1 HZ.out.2.2.2.2 wX kX).2.1)
  have HB:=As.mk (fun wX kX=>(HEND.out w8 _ _ HZ.out.1 HZ.out.2.2.2.1 HZ.out.2.2.2.2 wX kX).2.2)
  have p0:=bkc HZ.out.1.pr.hd 0 rfl
  have p1:=bkc HZ.out.1.pr.hd 1 rfl
  have hwn:wayN ms m2=ms++m2:=by rw[wayN,if_neg (by rw[List.length_append,HE.out.1,HE.out.2];omega)]
  have HWN:=As.mk hwn
  clear HEND hwn h60 hN f3
  go_upto_region 4 with fail
  go_quiet (first
   |(go_at_call 96;refine Calls.quiet_of (HM.out _ (by first|exact Kp.refl _ _|exact(Kp.refl [] w8).drewN _)))
   |(go_at_call 10;refine Calls.quiet_of_same (HA.out _ (by first|exact Kp.refl _ _|exact(Kp.refl [] w8).drewN _)))
   |(go_at_call 69;refine Calls.quiet_of (HB.out _ (by first|exact Kp.refl _ _|exact(Kp.refl [] w8).drewN _))))
  go_wp2_with fail
  go_ret
  refine⟨rfl,_, ?_,HZ.out.2.1.drewN _,HZ.out.2.2.1⟩
  rw[HWN.out]
  exact HZ.out.1.kp0 ((Kp.refl [] w8).drewN _)
end Go.Proofs.YtdiljpdohmeceaaGreat.co
namespace Go.Proofs.YtdiljpdohmeceaaGreat.co.cr
open Go.RowKit H O opk frame wir
structure SendAt(w:World)(b g o gw sh:Nat)(id d:Int)(Af:Option Addr)(nf cf:Nat)(fr:List Int):Prop where
 c0:w.cell? ⟨b,0,none⟩=some (.int .i64 id)
 c4:∃nw cw,sh<nw/\nw<=1000/\w.cell? ⟨b,4,none⟩=some (.slice (some ⟨gw,0,none⟩) nw cw)
 cw:w.cell? ⟨gw,sh,none⟩=some (.int .i64 d)
 a0:w.cell? ⟨g,o,none⟩=some (.int .i64 (sh:Int))
 a2:w.cell? ⟨g,o+2,none⟩=some (.slice Af nf cf)
 a4:∃x,w.cell? ⟨g,o+4,none⟩=some x
 f4:w.frozen? ⟨g,o+4,none⟩=false
 rd:RdS [g] w Af (iv .u8 fr)
 len:fr.length=nf
 nil:Af=none->cf=0
 nb:g≠b
 ngw:g≠gw
def SendR(w:World)(g o:Nat)(id d:Int)(nf:Nat)(fr:List Int)(e:Ending)(w':World):Prop:=∃A2 c2,e= .returned (.agg #[.int .i64 id,.int .i64 d,.slice A2 nf c2])/\As (Own 5 .u8 w' w.heap.size (.slice A2 nf c2) fr/\Kp [] (w.setCell ⟨g,o+4,none⟩ (.int .i64 0)) w')
theorem sends_at(w:World)(b g o gw sh:Nat)(id d:Int)(Af:Option Addr)(nf cf:Nat)(fr:List Int)(h:SendAt w b g o gw sh id d Af nf cf fr)(h9:nf<=1000000):
 Calls Tryz.prog 99 #[.pointer (some ⟨b,0,none⟩),.pointer (some ⟨g,o,none⟩)] w (SendR w g o id d nf fr):=by
 obtain⟨nw,cw,hs1,hs2,c4⟩:=h.c4
 obtain⟨x,a4⟩:=h.a4
 have f4:=h.f4
 have hg:=World.block_lt_of_cell? w _ a4
 have hgn:¬g=w.heap.size:=Nat.ne_of_lt hg
 obtain⟨W0,hW0⟩:∃W0,W0=w.setCell ⟨g,o+4,none⟩ (.int .i64 0):=⟨_,rfl⟩
 obtain⟨W1,hW1⟩:∃W1,W1=(w.setCell ⟨g,o+4,none⟩ (.int .i64 0)).alloc (.cells #[.int .i64 0,.int .i64 0,.slice none 0 0] 44):=⟨_,rfl⟩
 have k0:Kp [g] w W0:=by rw[hW0];exact(Kp.refl [g] w).setCell (.inl (by simp)) _
 have kB:Kp [] W0 W1:=by rw[hW1,<-hW0];exact(Kp.refl [] _).alloc _
 have s0:W0.heap.size=w.heap.size:=by rw[hW0];simp
 have s1:W1.heap.size=w.heap.size+1:=by rw[hW1];simp
 have hm1:M3 W1 w.heap.size (.int .i64 0) (.int .i64 0) (.slice none 0 0):=by
  rw[hW1]
  have:=heap_alloc_new (w.setCell ⟨g,o+4,none⟩ (.int .i64 0)) (.cells #[.int .i64 0,.int .i64 0,.slice none 0 0] 44)
  rwa[World.size_setCell] at this
 have lb:=World.block_lt_of_cell? w _ h.c0
 have lw:=World.block_lt_of_cell? w _ h.cw
 have e0:W0.cell? ⟨g,o,none⟩=some (.int .i64 (sh:Int)):=by rw[hW0,World.cell?_setCell_other];exact h.a0;simp
 have e2:W0.cell? ⟨g,o+2,none⟩=some (.slice Af nf cf):=by rw[hW0,World.cell?_setCell_other];exact h.a2;simp
 have KX:As (∀wX,Kp [w.heap.size] W1 wX->wX.cell? ⟨b,0,none⟩=some (.int .i64 id)/\wX.cell? ⟨b,4,none⟩=some (.slice (some ⟨gw,0,none⟩) nw cw)/\wX.cell? ⟨gw,sh,none⟩=some (.int .i64 d)/\wX.cell? ⟨g,o,none⟩=some (.int .i64 (sh:Int))/\wX.cell? ⟨g,o+2,none⟩=some (.slice Af nf cf)):=⟨fun wX kX=>by
  have far:∀{q j v},w.cell? ⟨q,j,none⟩=some v->q≠g->wX.cell? ⟨q,j,none⟩=some v:=fun {q j v} hc hq=>by
   have l:=World.block_lt_of_cell? w _ hc
   exact kX.cell (kB.cell (k0.cell hc (by simpa using hq)) (by simp)) (by simp at l⊢;omega)
  refine⟨far h.c0 (Ne.symm h.nb),far c4 (Ne.symm h.nb),far h.cw (Ne.symm h.ngw),kX.cell (kB.cell e0 (by simp)) (by simp at hg⊢;omega),kX.cell (kB.cell e2 (by simp)) (by simp at hg⊢;omega)⟩⟩
 have HRD:As (∀wX,Kp [w.heap.size] W1 wX->Rd wX Af (iv .u8 fr)):=⟨fun wX kX=>by
  have r1:=(h.rd.kp k0 (fun x hx=> .inl hx)).kp kB (by simp)
  intro j v hv
  obtain⟨a,e,hn,hc⟩:=r1 j v hv
  have hl:=World.block_lt_of_cell? W1 _ hc
  obtain⟨a2,e',_,hc2⟩:=h.rd j v hv
  rw[e] at e'
  cases e'
  have hl2:=World.block_lt_of_cell? w _ hc2
  exact⟨a,e,kX.cell hc (by simp at hl2⊢;omega)⟩⟩
 have HMX:As (∀wX,Kp [] W1 wX->wX.cell? ⟨w.heap.size,0,none⟩=some (.int .i64 0)/\wX.cell? ⟨w.heap.size,1,none⟩=some (.int .i64 0)/\wX.cell? ⟨w.heap.size,2,none⟩=some (.slice none 0 0)/\wX.frozen? ⟨w.heap.size,0,none⟩=false/\wX.frozen? ⟨w.heap.size,1,none⟩=false/\wX.frozen? ⟨w.heap.size,2,none⟩=false):=⟨fun wX kX=>by
  have hX:=hm1.kp kX (by simp)
  exact⟨bkc hX 0 rfl,bkc hX 1 rfl,bkc hX 2 rfl,blk_free hX 0,blk_free hX 1,blk_free hX 2⟩⟩
 have HAP:As (∀wX v2 w2,Kp [] W1 wX->w2.ownsRow 0 5 1 v2 (0+nf) ([]++iv .u8 fr)->Kp (Value.slice (some ⟨wX.heap.size,0,none⟩) 0 0).ownBlock.toList (wX.alloc (.cells #[] 5)) w2->At (wX.heap.size+1) (Value.slice (some ⟨wX.heap.size,0,none⟩) 0 0).ownBlock v2.ownBlock->
  ∃A2 c2,v2= .slice A2 nf c2/\As (Own 5 .u8 w2 W1.heap.size (.slice A2 nf c2) fr)/\As (Kp [] W1 w2)):=⟨fun wX v2 w2 kX o2 k2 a2=>by
  have o3:=own_of_app (lo:=W1.heap.size) h.len o2 (by simpa using a2.low (Nat.le_refl _)) (by have:=kX.size;omega) (by intro g hg;simp[Value.ownBlock] at hg;have:=kX.size;omega)
  obtain⟨A2,c2,rfl,_⟩:=own_rd o3.1
  have e:=h.len
  rw[e] at o3⊢
  exact⟨A2,c2,rfl,⟨o3⟩,⟨kX.trans (kp_of_new k2) (by simp)⟩⟩⟩
 have HL:=As.mk (show(iv .u8 fr).length=nf*1 by rw[iv_len,h.len,Nat.mul_one])
 have HN:=As.mk h.nil
 have HS:=As.mk (And.intro s0 s1)
 have HM1:=As.mk hm1
 have HB:=As.mk kB
 have HW0:=As.mk hW0
 have HW1:=As.mk hW1
 have i0:(0:Int)<=(sh:Int):=by omega
 have i1:(sh:Int)<(nw:Int):=by omega
 clear h c4 hs1 hs2 k0 kB s0 s1 hm1 lb lw e0 e2 hW0 hW1
 go_enter Tryz.func99,Tryz.ntmps99
 go_upto_region 2 with fail
 rw[<-HW1.out]
 clear a4 f4 hg hgn
 go_region_held3 (fun wX=>wX.cell? ⟨b,0,none⟩=some (.int .i64 id)/\wX.cell? ⟨b,4,none⟩=some (.slice (some ⟨gw,0,none⟩) nw cw)/\wX.cell? ⟨gw,sh,none⟩=some (.int .i64 d)/\wX.cell? ⟨g,o,none⟩=some (.int .i64 (sh:Int))/\wX.cell? ⟨g,o+2,none⟩=some (.slice Af nf cf))
  (first|exact KX.out _ (Kp.refl _ W1)|exact KX.out _ (Kp.refl _ W1).drew|exact KX.out _ ((Kp.refl _ W1).drewN _)|exact KX.out _ ((Kp.refl _ W1).drew.alloc _)|exact KX.out _ (((Kp.refl _ W1).drewN _).alloc _)|exact KX.out _ ((Kp.refl _ W1).alloc _)|exact KX.out _ (HK2.out.mono (by simp))|exact KX.out _ ((HK2.out.mono (T:=[w.heap.size]) (by simp)).drewN _)|exact KX.out _ (((((HK2.out.mono (T:=[w.heap.size]) (by simp))).setCell (.inl (by simp)) _).setCell (.inl (by simp)) _).setCell (.inl (by simp)) _))
  (first|(refine step_app (by rfl) (.tmp 22) (.tmp 26) 24 (by rfl) 5 (.int .u8 0) 1 1 Tryz.underlying24 clone.info_u8 rfl (by decide) (.slice (some ⟨W1.heap.size,0,none⟩) 0 0) 0 [] (by rfl) (by first|exact own_new W1.drew [] _ (by simp)|exact own_new W1 [] _ (by simp)|exact own_new (W1.drewN _) [] _ (by simp)) Af nf cf (iv .u8 fr) (by rfl) HL.out (by first|exact HRD.out _ ((Kp.refl _ W1).drew.alloc _)|exact HRD.out _ ((Kp.refl _ W1).alloc _)|exact HRD.out _ (((Kp.refl _ W1).drewN _).alloc _)) HN.out (iv_one _ _) (by omega) (by omega) ?_;intro v2 w2 o2 k2 a2;obtain⟨A2,c2,rfl,HO2,HK2⟩:=HAP.out _ v2 w2 (by first|exact(Kp.refl [] W1).drew|exact Kp.refl [] W1|exact(Kp.refl [] W1).drewN _) o2 k2 (by simpa using a2);obtain⟨m0,m1,m2,g0,g1,g2⟩:=HMX.out w2 HK2.out;clear o2 k2 a2))
 go_wp2
 have hz:=(HM1.out.kp HK2.out (by simp)).set (.int .i64 id) (.int .i64 d) (.slice A2 nf c2)
 (try simp only[Exit.inBlock,Exit.then])
 refine bodyPost_ret (hz.1.res rfl rfl) rfl ?_
 have hs:=HS.out
 have kz:Kp [] W0 _:=(HB.out.trans HK2.out (by simp)).trans hz.2 (by intro y hy;simp at hy;subst hy;exact .inr (by omega))
 rw[HW0.out] at kz
 refine⟨_,_,rfl,⟨(HO2.out.kp hz.2 (fun g e=> ?_)).lower (by omega),kz⟩⟩
 have:=HO2.out.2 g e
 simp
 omega
structure RUpd(L L2:RLay)(w w1:World):Prop where
 b:L2.b=L.b
 gw:L2.gw=L.gw
 gL:∀x,L2.gL=some x->L.gL=some x\/w.heap.size<=x/\x<w1.heap.size
 ga:∀x,L2.ga=some x->L.ga=some x\/w.heap.size<=x/\x<w1.heap.size
 gd:∀x,L2.gd=some x->L.gd=some x\/w.heap.size<=x/\x<w1.heap.size
 dis:∀x,w.heap.size<=x->(L2.gL=some x->L2.ga≠some x/\L2.gd≠some x)/\(L2.ga=some x->L2.gd≠some x)
theorem RUpd.grew{L L2:RLay}{w w1:World}(h:RUpd L L2 w w1):RGrew w L L2:=⟨h.b,fun x hx=>by
 rcases RLay.mem.1 hx with e|e|e|e|e
 ·exact .inl (RLay.mem.2 (.inl (e.trans h.b)))
 ·exact .inl (RLay.mem.2 (.inr (.inl (e.trans h.gw))))
 ·exact(h.gL x e).imp (fun e=>RLay.mem.2 (.inr (.inr (.inl e)))) (fun e=>e.1)
 ·exact(h.ga x e).imp (fun e=>RLay.mem.2 (.inr (.inr (.inr (.inl e))))) (fun e=>e.1)
 ·exact(h.gd x e).imp (fun e=>RLay.mem.2 (.inr (.inr (.inr (.inr e))))) (fun e=>e.1)⟩
theorem RUpd.sub{U:List Nat}{L L2:RLay}{w w1:World}(h:RUpd L L2 w w1):∀x∈L2.all++U,x∈L.all++U\/w.heap.size<=x:=fun x hx=>by
 rcases List.mem_append.1 hx with e|e
 ·exact(h.grew.2 x e).imp (fun e=>List.mem_append.2 (.inl e)) id
 ·exact .inl (List.mem_append.2 (.inr e))
theorem RUpd.same(L:RLay){w w1:World}{U:List Nat}{κ:Nat->Nat}(h:RSep U L κ w.heap.size):RUpd L L w w1:=
 ⟨rfl,rfl,fun x e=> .inl e,fun x e=> .inl e,fun x e=> .inl e,fun x hx=>⟨fun e=>by have:=h.gL x e;omega,fun e=>by have:=h.ga x e;omega⟩⟩
theorem RSep.upd{U:List Nat}{L L2:RLay}{κ:Nat->Nat}{w w1:World}(h:RSep U L κ w.heap.size)(u:RUpd L L2 w w1)(hs:w.heap.size<=w1.heap.size):∃κ2,RSep U L2 κ2 w1.heap.size:=by
 have lo:∀x c,κ x=c/\x<w.heap.size->(if x<w.heap.size then κ x else if L2.gL=some x then 3 else if L2.ga=some x then 4 else 5)=c/\x<w1.heap.size:=fun x c hx=>by rw[if_pos hx.2];exact⟨hx.1,by omega⟩
 refine⟨fun x=>if x<w.heap.size then κ x else if L2.gL=some x then 3 else if L2.ga=some x then 4 else 5, ?_, ?_,fun x e=> ?_,fun x e=> ?_,fun x e=> ?_,fun x e=>lo _ _ (h.U x e)⟩
 ·rw[u.b];exact lo _ _ h.b
 ·rw[u.gw];exact lo _ _ h.gw
 ·rcases u.gL x e with e2|e2
  ·exact lo _ _ (h.gL x e2)
  ·show(if x<w.heap.size then κ x else if L2.gL=some x then 3 else if L2.ga=some x then 4 else 5)=3/\_
   rw[if_neg (by omega),if_pos e]
   exact⟨rfl,e2.2⟩
 ·rcases u.ga x e with e2|e2
  ·exact lo _ _ (h.ga x e2)
  ·show(if x<w.heap.size then κ x else if L2.gL=some x then 3 else if L2.ga=some x then 4 else 5)=4/\_
   have:=(u.dis x e2.1)
   rw[if_neg (by omega),if_neg (fun e3=>(this.1 e3).1 e),if_pos e]
   exact⟨rfl,e2.2⟩
 ·rcases u.gd x e with e2|e2
  ·exact lo _ _ (h.gd x e2)
  ·show(if x<w.heap.size then κ x else if L2.gL=some x then 3 else if L2.ga=some x then 4 else 5)=5/\_
   have:=(u.dis x e2.1)
   rw[if_neg (by omega),if_neg (fun e3=>(this.1 e3).2 e),if_neg (fun e3=>this.2 e3 e)]
   exact⟨rfl,e2.2⟩
theorem RsP.upd{U V:List Nat}{w w1:World}{L L2:RLay}{cf:Cfg}{s s2:Cs}{κ:Nat->Nat}{VS VW VL VA VD VL2 VA2 VD2:Value}(h:RsP U w L cf s κ VS VW VL VA VD)(k:Kp V w w1)(hV:∀x∈V,x∈L.all++U\/w.heap.size<=x)(nW:L.gw∉V)(u:RUpd L L2 w w1)
 (hd:w1.heap[L.b]?=some (.cells #[.int .i64 (cf.id:Int),.int .i64 (cf.pat:Int),.int .i64 (cf.tries:Int),VS,VW,VL2,.int .i64 (s2.ended:Int),VA2,.int .i64 (s2.ctx:Int),VD2] 136 (0,0))) (hwh:s2.whom=s.whom)
 (jq:∃past vs,past.length=s2.ended/\w1.ownsRow 0 168 3 VL2 (s2.ended+s2.jobs.length) vs/\RjOk (L2.all++U) w1 (past++s2.jobs) vs/\VL2.ownBlock=L2.gL)
 (aq:∃vs,w1.ownsRow 0 171 11 VA2 s2.asks.length vs/\RaOk (L2.all++U) w1 s2.asks vs/\VA2.ownBlock=L2.ga)
 (dn:RDone (L2.all++U) w1 VD2 L2.gd s2.done):RsSt U w1 L2 cf s2:=by
 obtain⟨κ2,hs⟩:=h.sep.upd u k.size
 refine⟨κ2,VS,VW,VL2,VA2,VD2,hs,by rw[u.b];exact hd,h.sh.kp k hV u.sub,⟨?_,by rw[u.gw];exact h.wh.2⟩,jq,aq,dn⟩
 rw[hwh]
 exact k.own h.wh.1 (fun x e=>by rw[h.wh.2] at e;cases e;exact nW)
theorem RsP.jq0{U V:List Nat}{w w1:World}{L L2:RLay}{cf:Cfg}{s:Cs}{κ:Nat->Nat}{VS VW VL VA VD:Value}(h:RsP U w L cf s κ VS VW VL VA VD)(k:Kp V w w1)(hV:∀x∈V,x∈L.all++U\/w.heap.size<=x)(u:RUpd L L2 w w1)(n:∀x,L.gL=some x->x∉V)(e:L2.gL=L.gL):
 ∃past vs,past.length=s.ended/\w1.ownsRow 0 168 3 VL (s.ended+s.jobs.length) vs/\RjOk (L2.all++U) w1 (past++s.jobs) vs/\VL.ownBlock=L2.gL:=by
 obtain⟨past,vs,j1,j2,j3,j4⟩:=h.jq
 exact⟨past,vs,j1,k.own j2 (fun x e=>n x (by rw[<-j4];exact e)),j3.kp k hV u.sub,j4.trans e.symm⟩
theorem RsP.aq0{U V:List Nat}{w w1:World}{L L2:RLay}{cf:Cfg}{s:Cs}{κ:Nat->Nat}{VS VW VL VA VD:Value}(h:RsP U w L cf s κ VS VW VL VA VD)(k:Kp V w w1)(hV:∀x∈V,x∈L.all++U\/w.heap.size<=x)(u:RUpd L L2 w w1)(n:∀x,L.ga=some x->x∉V)(e:L2.ga=L.ga):
 ∃vs,w1.ownsRow 0 171 11 VA s.asks.length vs/\RaOk (L2.all++U) w1 s.asks vs/\VA.ownBlock=L2.ga:=by
 obtain⟨vs,j2,j3,j4⟩:=h.aq
 exact⟨vs,k.own j2 (fun x e=>n x (by rw[<-j4];exact e)),j3.kp k hV u.sub,j4.trans e.symm⟩
theorem RsP.dn0{U V:List Nat}{w w1:World}{L L2:RLay}{cf:Cfg}{s:Cs}{κ:Nat->Nat}{VS VW VL VA VD:Value}(h:RsP U w L cf s κ VS VW VL VA VD)(k:Kp V w w1)(hV:∀x∈V,x∈L.all++U\/w.heap.size<=x)(u:RUpd L L2 w w1)(n:∀x,L.gd=some x->x∉V)(e:L2.gd=L.gd):RDone (L2.all++U) w1 VD L2.gd s.done:=by
 rw[e]
 exact h.dn.kp k n hV u.sub
theorem RaOk.len{S:List Nat}{w:World}:∀{l:List Ask} {vs:List Value},RaOk S w l vs->vs.length=l.length*11
 |[],vs,h=>by
  obtain rfl:vs=[]:=h
  rfl
 |a::l,vs,⟨fv,mv',b,h1,_,_,h4⟩=>by
  have:=RaOk.len h4
  subst h1
  simp[askV,this]
  omega
theorem RaOk.snoc{S:List Nat}{w:World}{a:Ask}{fv mv':Value}(hf:BSl S w fv a.frame)(hm:MSl S w mv' a.ms):∀{l:List Ask} {vs:List Value},RaOk S w l vs->RaOk S w (l++[a]) (vs++askV a fv mv')
 |[],vs,h=>by
  obtain rfl:vs=[]:=h
  exact⟨fv,mv',[],by simp,hf,hm,rfl⟩
 |x::l,vs,⟨f,m,b,h1,h2,h3,h4⟩=>by
  subst h1
  exact⟨f,m,b++askV a fv mv',by simp,h2,h3,RaOk.snoc hf hm h4⟩
theorem RaOk.at{S:List Nat}{w:World}:∀{l:List Ask} {vs:List Value} {i:Nat} {a:Ask},RaOk S w l vs->l[i]?=some a->
 ∃fv mv',(∀j,j<11->vs[i*11+j]?=(askV a fv mv')[j]?)/\BSl S w fv a.frame/\MSl S w mv' a.ms/\
  ∀a' fv' mv'' j u,askV a' fv' mv''=(askV a fv mv').set j u->j<11->BSl S w fv' a'.frame->MSl S w mv'' a'.ms->RaOk S w (l.set i a') (vs.set (i*11+j) u)
 |[],_,_,_,_,h=>by simp at h
 |x::l,vs,0,a,⟨f,m,b,h1,h2,h3,h4⟩,h=>by
  cases h
  subst h1
  refine⟨f,m,fun j hj=> ?_,h2,h3,fun a' fv' mv'' j u e hj hf hm=>⟨fv',mv'',b, ?_,hf,hm,h4⟩⟩
  ·rw[List.getElem?_append_left (by simp[askV];omega)]
   simp
  ·rw[e,Nat.zero_mul,Nat.zero_add,List.set_append_left _ _ (by simp[askV];omega)]
 |x::l,vs,i+1,a,⟨f,m,b,h1,h2,h3,h4⟩,h=>by
  subst h1
  obtain⟨fv,mv',g1,g2,g3,g4⟩:=RaOk.at h4 (i:=i) (a:=a) (by simpa using h)
  have hl:(askV x f m).length=11:=rfl
  have e0:∀j,(i+1)*11+j=11+(i*11+j):=fun j=>by omega
  refine⟨fv,mv',fun j hj=> ?_,g2,g3,fun a' fv' mv'' j u e hj hf hm=>⟨f,m,b.set (i*11+j) u, ?_,h2,h3,g4 a' fv' mv'' j u e hj hf hm⟩⟩
  ·rw[e0,List.getElem?_append_right (by omega),hl,Nat.add_sub_cancel_left]
   exact g1 j hj
  ·rw[e0,List.set_append_right _ _ (by omega),hl,Nat.add_sub_cancel_left]
theorem dest_set{cf:Cfg}{whom:List Nat}{sh x:Nat}(h:sh<whom.length)(i:Nat):dest cf (whom.set sh x) i=if i=sh then(cf.shards.getD sh []).getD x 0 else dest cf whom i:=by
 unfold dest
 by_cases e:i=sh
 ·subst e
  rw[if_pos rfl]
  congr 1
  simp[List.getD,h]
 ·rw[if_neg e]
  congr 1
  simp only[List.getD]
  rw[List.getElem?_set_ne (by omega)]
theorem whomN_set{cf:Cfg}{whom:List Nat}{sh x:Nat}(h:sh<whom.length):whomN cf (whom.set sh x)=(whomN cf whom).set sh (dest cf (whom.set sh x) sh):=by
 apply List.ext_getElem
 ·rw[whomN_len,List.length_set,whomN_len]
 ·intro i h1 h2
  rw[List.getElem_set]
  simp only[whomN,List.getElem_map,List.getElem_range]
  by_cases e:sh=i
  ·subst e
   rw[if_pos rfl]
  ·rw[if_neg e,dest_set h,if_neg (fun e2=>e e2.symm)]
theorem whomN_get{cf:Cfg}{whom:List Nat}{i:Nat}(h:i<cf.shards.length):(whomN cf whom)[i]?=some (dest cf whom i):=by
 simp[whomN,h]
theorem RsP.askAt{U:List Nat}{w:World}{L:RLay}{cf:Cfg}{s:Cs}{κ:Nat->Nat}{VS VW VL VA VD:Value}(h:RsP U w L cf s κ VS VW VL VA VD){i:Nat}{a:Ask}(ha:s.asks[i]?=some a):
 ∃ga c fv mv',VA= .slice (some ⟨ga,0,none⟩) s.asks.length c/\L.ga=some ga/\(∀j v,(askV a fv mv')[j]?=some v->w.cell? ⟨ga,i*11+j,none⟩=some v)/\(∀j,w.frozen? ⟨ga,j,none⟩=false)/\BSl (L.all++U) w fv a.frame/\MSl (L.all++U) w mv' a.ms/\
  ∀a' fv' mv'' j u,askV a' fv' mv''=(askV a fv mv').set j u->j<11->BSl (L.all++U) w fv' a'.frame->MSl (L.all++U) w mv'' a'.ms->RsP U (w.setCell ⟨ga,i*11+j,none⟩ u) L cf {s with asks:=s.asks.set i a'} κ VS VW VL VA VD:=by
 obtain⟨vs,o,r,hg⟩:=h.aq
 have hi:=(List.getElem?_eq_some_iff.1 ha).1
 obtain⟨ga,c,rfl,_,_⟩:=own_form o (by omega)
 have hga:L.ga=some ga:=by rw[<-hg];rfl
 obtain⟨fv,mv',g1,g2,g3,g4⟩:=r.at ha
 have hlen:=r.len
 refine⟨ga,c,fv,mv',rfl,hga,fun j v hv=> ?_,fun j=>o.frozenAt j,g2,g3,fun a' fv' mv'' j u e hj hf hm=> ?_⟩
 ·have hj:j<11:=by have:=(List.getElem?_eq_some_iff.1 hv).1;simpa [askV] using this
  rw[o.cellAt _ (by omega),g1 j hj]
  exact hv
 ·have k:Kp [ga] w (w.setCell ⟨ga,i*11+j,none⟩ u):=(Kp.refl [ga] w).setCell (.inl (by simp)) _
  have hm1:ga∈L.all++U:=List.mem_append.2 (.inl (RLay.mem.2 (.inr (.inr (.inr (.inl hga))))))
  have hV:∀x∈[ga],x∈L.all++U\/w.heap.size<=x:=fun x hx=>by
   simp only[List.mem_singleton] at hx
   subst hx
   exact .inl hm1
  have hS:∀x∈L.all++U,x∈L.all++U\/w.heap.size<=x:=fun x hx=> .inl hx
  have h4:=(h.sep.ga ga hga).1
  have ne:∀x c,κ x=c->c≠4->x∉[ga]:=fun x c hx hc hm=>by
   simp only[List.mem_singleton] at hm
   subst hm
   omega
  obtain⟨past,us,j1,j2,j3,j4⟩:=h.jq
  refine⟨by simpa using h.sep,k.blk h.hd (ne _ _ h.sep.b.1 (by decide)),h.sh.kp k hV hS,⟨k.own h.wh.1 (fun x e=>by rw[h.wh.2] at e;cases e;exact ne _ _ h.sep.gw.1 (by decide)),h.wh.2⟩,
   ⟨past,us,j1,k.own j2 (fun x e=>ne _ _ (h.sep.gL x (by rw[<-j4];exact e)).1 (by decide)),j3.kp k hV hS,j4⟩,⟨vs.set (i*11+j) u, ?_, ?_,hg⟩,h.dn.kp k (fun x e=>ne _ _ (h.sep.gd x e).1 (by decide)) hV hS⟩
  ·show World.ownsRow _ 0 _ 11 _ (s.asks.set i a').length _
   rw[List.length_set]
   exact(o.stored _ u).1
  ·exact(g4 a' fv' mv'' j u e hj hf hm).kp k hV hS
theorem RsP.whom{U:List Nat}{w:World}{L:RLay}{cf:Cfg}{s:Cs}{κ:Nat->Nat}{VS VW VL VA VD:Value}(h:RsP U w L cf s κ VS VW VL VA VD)(hwl:s.whom.length=cf.shards.length){sh:Nat}(hsh:sh<cf.shards.length):
 ∃cw,VW= .slice (some ⟨L.gw,0,none⟩) cf.shards.length cw/\w.cell? ⟨L.gw,sh,none⟩=some (.int .i64 (dest cf s.whom sh))/\w.frozen? ⟨L.gw,sh,none⟩=false/\
  ∀x,RsP U (w.setCell ⟨L.gw,sh,none⟩ (.int .i64 (dest cf (s.whom.set sh x) sh))) L cf {s with whom:=s.whom.set sh x} κ VS VW VL VA VD:=by
 obtain⟨g,cw,rfl,_,_⟩:=own_form h.wh.1 (by omega)
 have hg:some g=some L.gw:=h.wh.2
 cases hg
 obtain⟨⟨x0,hx0⟩,f0,_⟩:=own_store h.wh.1 sh hsh (.int .i64 0)
 refine⟨cw,rfl, ?_,f0,fun x=> ?_⟩
 ·rw[h.wh.1.cellAt _ (by omega),iv,List.getElem?_map,whomN_get hsh]
  rfl
 ·have k:Kp [L.gw] w (w.setCell ⟨L.gw,sh,none⟩ (.int .i64 (dest cf (s.whom.set sh x) sh))):=(Kp.refl _ w).setCell (.inl (by simp)) _
  have hV:∀x∈[L.gw],x∈L.all++U\/w.heap.size<=x:=fun x hx=>by
   simp only[List.mem_singleton] at hx
   subst hx
   exact .inl (List.mem_append.2 (.inl (RLay.mem.2 (.inr (.inl rfl)))))
  have hS:∀x∈L.all++U,x∈L.all++U\/w.heap.size<=x:=fun x hx=> .inl hx
  have ne:∀x c,κ x=c->c≠2->x∉[L.gw]:=fun x c hx hc hm=>by
   simp only[List.mem_singleton] at hm
   subst hm
   have:=h.sep.gw
   omega
  obtain⟨_,_,ho⟩:=own_store h.wh.1 sh hsh (.int .i64 (dest cf (s.whom.set sh x) sh))
  have e:(iv .i64 (whomN cf s.whom)).set sh (.int .i64 (dest cf (s.whom.set sh x) sh))=iv .i64 (whomN cf (s.whom.set sh x)):=by
   rw[whomN_set (by omega),iv,iv,List.map_set]
  rw[e] at ho
  obtain⟨past,us,j1,j2,j3,j4⟩:=h.jq
  obtain⟨vs,a1,a2,a3⟩:=h.aq
  exact⟨by simpa using h.sep,k.blk h.hd (ne _ _ h.sep.b.1 (by decide)),h.sh.kp k hV hS,⟨ho,h.wh.2⟩,⟨past,us,j1,k.own j2 (fun x e=>ne _ _ (h.sep.gL x (by rw[<-j4];exact e)).1 (by decide)),j3.kp k hV hS,j4⟩,
   ⟨vs,k.own a1 (fun x e=>ne _ _ (h.sep.ga x (by rw[<-a3];exact e)).1 (by decide)),a2.kp k hV hS,a3⟩,h.dn.kp k (fun x e=>ne _ _ (h.sep.gd x e).1 (by decide)) hV hS⟩
theorem RsP.nodes{U:List Nat}{w:World}{L:RLay}{cf:Cfg}{s:Cs}{κ:Nat->Nat}{VS VW VL VA VD:Value}(h:RsP U w L cf s κ VS VW VL VA VD){sh:Nat}(hsh:sh<cf.shards.length)(hg:Grp cf.shards[sh]):
 ∃b o cS Ab Ao nj cj,VS= .slice (some ⟨b,o,none⟩) cf.shards.length cS/\b∉L.all++U/\w.cell? ⟨b,o+sh,none⟩=some (.slice (some ⟨Ab,Ao,none⟩) nj cj)/\Ab∉L.all++U/\cf.shards[sh].length=nj/\RdS (L.all++U) w (some ⟨Ab,Ao,none⟩) (iv .i64 cf.shards[sh]):=by
 obtain⟨A,cS,rfl,hr,_,_,_⟩:=h.sh
 obtain⟨b,o,Aj,cj,rfl,hb,c0,_,hrj⟩:=ri_at hr sh hsh
 have h1:0<cf.shards[sh].length:=hg.1.1
 obtain⟨a,e,hn,_⟩:=hrj 0 (.int .i64 (cf.shards[sh][0]'h1)) (iv_get _ _ 0 h1)
 obtain⟨Ab,Ao,e2,_⟩:=int_at hrj.rd 0 hg.1.1
 rw[e] at e2
 cases e2
 subst e
 exact⟨b,o,cS,Ab,Ao,_,cj,rfl,hb,c0,hn,rfl,hrj⟩
def RTick(U:List Nat)(L:RLay)(cf:Cfg)(r:Cs×List Msg)(w:World)(e:Ending)(w':World):Prop:=
 ∃L' v,e= .returned v/\RsSt U w' L' cf r.1/\OutI (L'.all++U) w' v r.2/\RGrew w L L'/\Kp L.all w w'
def bR(cf:Cfg)(s:Cs)(j:Job)(fr k:Nat):Cs:={s with asks:=mkAsks cf s.ended j 1 s.ctx (List.range' fr (k-fr)),ctx:=s.ctx+(k-fr)}
theorem bR_zero{cf:Cfg}{s:Cs}{j:Job}{fr:Nat}(ha:s.asks=[]):bR cf s j fr fr=s:=by
 simp only[bR,Nat.sub_self,List.range'_zero,mkAsks,Nat.add_zero,<-ha]
theorem bR_asks{cf:Cfg}{s:Cs}{j:Job}{fr k:Nat}(h:fr<=k):(bR cf s j fr (k+1)).asks=(bR cf s j fr k).asks++[newAsk cf s.ended j 1 (s.ctx+(k-fr)+1) k]:=by
 simp only[bR]
 have e:k+1-fr=(k-fr)+1:=by omega
 rw[e,List.range'_concat,mkAsks_snoc,List.length_range',show fr+1*(k-fr)=k by omega]
theorem bR_len{cf:Cfg}{s:Cs}{j:Job}{fr k:Nat}:(bR cf s j fr k).asks.length=k-fr:=by
 simp only[bR]
 rw[mkAsks_len,List.length_range']
def jfr(cf:Cfg)(j:Job):Nat:=if j.kind=4 then 0 else shardOf (kb j.key) cf.shards.length
def jto(cf:Cfg)(j:Job):Nat:=if j.kind=4 then cf.shards.length else shardOf (kb j.key) cf.shards.length+1
theorem jshards_range(cf:Cfg)(j:Job):jshards cf j=List.range' (jfr cf j) (jto cf j-jfr cf j):=by
 unfold jshards jfr jto
 by_cases h:j.kind=4
 ·rw[if_pos h,if_pos h,if_pos h,List.range_eq_range',Nat.sub_zero]
 ·rw[if_neg h,if_neg h,if_neg h,show shardOf (kb j.key) cf.shards.length+1-shardOf (kb j.key) cf.shards.length=1 by omega]
  rfl
theorem bR_all(cf:Cfg)(s:Cs)(j:Job):bR cf s j (jfr cf j) (jto cf j)={s with asks:=mkAsks cf s.ended j 1 s.ctx (jshards cf j),ctx:=s.ctx+(jshards cf j).length}:=by
 simp only[bR,jshards_range,List.length_range']
theorem jto_le{cf:Cfg}{j:Job}(h:0<cf.shards.length):jfr cf j<jto cf j/\jto cf j<=cf.shards.length:=by
 unfold jfr jto
 have:=shardOf_lt (kb j.key) h
 by_cases e:j.kind=4
 ·rw[if_pos e,if_pos e];omega
 ·rw[if_neg e,if_neg e];omega
structure JbAt(w:World)(jb:Nat)(j:Job)(At:Option Addr)(nt ct:Nat)(wr:World):Prop where
 hd:wr.heap[jb]?=some (.cells #[.int .i64 (j.kind:Int),.string j.key,.slice At nt ct] 168 (0,0))
 lo:w.heap.size<=jb
theorem JbAt.kp{w wr w1:World}{jb:Nat}{j:Job}{At:Option Addr}{nt ct:Nat}(h:JbAt w jb j At nt ct wr){V:List Nat}(k:Kp V wr w1)(hn:jb∉V):JbAt w jb j At nt ct w1:=⟨k.blk h.hd hn,h.lo⟩
structure BgS(U:List Nat)(L:RLay)(cf:Cfg)(t:Cs)(ms:List Msg)(j:Job)(w:World)(jb:Nat)(At:Option Addr)(nt ct:Nat)(v:Value)(Lk:RLay)(wr:World):Prop where
 st:RsSt (jb::(v.ownBlock.toList++U)) wr Lk cf t
 gr:RGrew w L Lk
 out:OutI (jb::(Lk.all++U)) wr v ms
 kp:Kp L.all w wr
 jbk:JbAt w jb j At nt ct wr
 tx:BSl (jb::(v.ownBlock.toList++(Lk.all++U))) wr (.slice At nt ct) j.text
 vlo:∀g,v.ownBlock=some g->w.heap.size<=g
abbrev BgR(U:List Nat)(L:RLay)(cf:Cfg)(s:Cs)(j:Job)(fr:Nat)(w:World)(jb:Nat)(At:Option Addr)(nt ct:Nat)(k:Nat)(v:Value)(Lk:RLay)(wr:World):Prop:=
 BgS U L cf (bR cf s j fr k) ((bR cf s j fr k).asks.map (msgOf cf s.whom)) j w jb At nt ct v Lk wr
theorem BgS.lt{U:List Nat}{L:RLay}{cf:Cfg}{t:Cs}{ms:List Msg}{j:Job}{w:World}{jb:Nat}{At:Option Addr}{nt ct:Nat}{v:Value}{Lk:RLay}{wr:World}(h:BgS U L cf t ms j w jb At nt ct v Lk wr):∀x∈jb::(v.ownBlock.toList++(Lk.all++U)),x<wr.heap.size:=fun x hx=>by
 have hl:=h.st.lt x
 simp only[List.mem_cons,List.mem_append] at hx hl
 rcases hx with e|e|e|e
 ·exact hl (.inr (.inl e))
 ·exact hl (.inr (.inr (.inl e)))
 ·exact hl (.inl e)
 ·exact hl (.inr (.inr (.inr e)))
theorem BgS.kp0{U:List Nat}{L:RLay}{cf:Cfg}{t:Cs}{ms:List Msg}{j:Job}{w:World}{jb:Nat}{At:Option Addr}{nt ct:Nat}{v:Value}{Lk:RLay}{wr w1:World}(h:BgS U L cf t ms j w jb At nt ct v Lk wr)(k:Kp [] wr w1):BgS U L cf t ms j w jb At nt ct v Lk w1:=
 ⟨h.st.kp k (by simp) (fun x hx=> .inl hx),h.gr,h.out.kp k (by simp) (fun x hx=> .inl hx),h.kp.trans k (by simp),h.jbk.kp k (by simp),h.tx.kp k (by simp) (fun x hx=> .inl hx),h.vlo⟩
theorem BgS.ctx{U:List Nat}{L:RLay}{cf:Cfg}{t:Cs}{ms:List Msg}{j:Job}{w:World}{jb:Nat}{At:Option Addr}{nt ct:Nat}{v:Value}{Lk:RLay}{wr:World}(h:BgS U L cf t ms j w jb At nt ct v Lk wr):
 BgS U L cf {t with ctx:=t.ctx+1} ms j w jb At nt ct v Lk (wr.setCell ⟨Lk.b,8,none⟩ (.int .i64 ((t.ctx:Int)+1))):=by
 obtain⟨κ,VS,VW,VL,VA,VD,hp⟩:=h.st
 have k:Kp [Lk.b] wr (wr.setCell ⟨Lk.b,8,none⟩ (.int .i64 ((t.ctx:Int)+1))):=(Kp.refl _ wr).setCell (.inl (by simp)) _
 have hbm:Lk.b∈Lk.all:=RLay.mem.2 (.inl rfl)
 have hsep:=hp.sep
 have u:=RUpd.same Lk (w1:=wr.setCell ⟨Lk.b,8,none⟩ (.int .i64 ((t.ctx:Int)+1))) hsep
 have hV:∀x∈[Lk.b],x∈Lk.all++(jb::(v.ownBlock.toList++U))\/wr.heap.size<=x:=fun x hx=>by
  simp only[List.mem_singleton] at hx
  subst hx
  exact .inl (List.mem_append.2 (.inl hbm))
 have ne:∀x c,κ x=c->c≠1->x∉[Lk.b]:=fun x c hx hc hm=>by
  simp only[List.mem_singleton] at hm
  subst hm
  have:=hsep.b
  omega
 refine⟨hp.upd (s2:={t with ctx:=t.ctx+1}) k hV (ne _ 2 hsep.gw.1 (by decide)) u (heap_setCell_same wr Lk.b 8 _ _ (.int .i64 ((t.ctx:Int)+1)) hp.hd) rfl (hp.jq0 k hV u (fun x e=>ne _ _ (hsep.gL x e).1 (by decide)) rfl) (hp.aq0 k hV u (fun x e=>ne _ _ (hsep.ga x e).1 (by decide)) rfl) (hp.dn0 k hV u (fun x e=>ne _ _ (hsep.gd x e).1 (by decide)) rfl),
  h.gr,h.out.kp k (fun x hx=> ?_) (fun x hx=> .inl hx),h.kp.trans k (fun x hx=> ?_),h.jbk.kp k (ne _ 0 (hsep.U jb (by simp)).1 (by decide)),h.tx.kp k (fun x hx=> ?_) (fun x hx=> .inl hx),h.vlo⟩
 ·simp only[List.mem_singleton] at hx
  subst hx
  exact .inl (by simp[hbm])
 ·simp only[List.mem_singleton] at hx
  subst hx
  exact(h.gr.2 _ hbm).imp id id
 ·simp only[List.mem_singleton] at hx
  subst hx
  exact .inl (by simp[hbm])
theorem BgS.send{U:List Nat}{L:RLay}{cf:Cfg}{t:Cs}{ms:List Msg}{j:Job}{w:World}{jb:Nat}{At:Option Addr}{nt ct n:Nat}{v v2 dv:Value}{Lk:RLay}{wr w2:World}{vs:List Value}{m:Msg}(h:BgS U L cf t ms j w jb At nt ct v Lk wr)(hn:ms.length=n)(hm:MsOk (v.ownBlock.toList++(jb::(Lk.all++U))) wr ms vs)
 (hd:BSl (v.ownBlock.toList++(jb::(Lk.all++U))) wr dv m.data) (o2:w2.ownsRow 0 44 3 v2 (n+1) (vs++[.int .i64 m.frm,.int .i64 m.dst,dv])) (k2:Kp v.ownBlock.toList (wr.alloc (.cells #[.int .i64 m.frm,.int .i64 m.dst,dv] 44)) w2) (a2:H.At (wr.heap.size+1) v.ownBlock v2.ownBlock):
 BgS U L cf t (ms++[m]) j w jb At nt ct v2 Lk w2:=by
 obtain⟨_,_,hv,_⟩:=id h.out
 have hlt:=h.lt
 have hlo:∀x∈jb::(Lk.all++U),x<wr.heap.size:=fun x hx=>hlt x (by simp only[List.mem_cons,List.mem_append] at hx⊢;rcases hx with e|e|e<;>simp[e])
 have hO:=OutI.snoc hn hlo hv hm hd o2 k2 a2
 have k:Kp v.ownBlock.toList wr w2:=((Kp.refl v.ownBlock.toList wr).alloc _).trans k2 (fun x hx=> .inl hx)
 have hg:∀g,v2.ownBlock=some g->v.ownBlock=some g\/wr.heap.size<=g/\g<w2.heap.size:=fun g e=>by
  have hl:=own_lt o2 g e
  rcases a2 with e2|⟨y,e2,hy⟩
  ·rw[e2] at e;exact .inl e
  ·rw[e2] at e
   cases e
   exact .inr ⟨by omega,hl⟩
 have hs:=h.kp.size
 refine⟨h.st.kp k (fun x hx=> .inl (by simp only[List.mem_cons,List.mem_append];exact .inr (.inl hx))) (fun x hx=> ?_),h.gr,hO,h.kp.trans k (fun x hx=> .inr (h.vlo x (by simpa using hx))),h.jbk.kp k (fun e=>hv jb (by simpa using e) (by simp)),h.tx.kp k (fun x hx=> .inl (by simp only[List.mem_cons,List.mem_append];exact .inr (.inl hx))) (fun x hx=> ?_),fun g e=> ?_⟩
 ·simp only[List.mem_cons,List.mem_append,Option.mem_toList] at hx⊢
  rcases hx with e|e|e
  ·exact .inl (.inl e)
  ·rcases hg x e with e2|e2
   ·exact .inl (.inr (.inl e2))
   ·exact .inr e2
  ·exact .inl (.inr (.inr e))
 ·simp only[List.mem_cons,List.mem_append,Option.mem_toList] at hx⊢
  rcases hx with e|e|e
  ·exact .inl (.inl e)
  ·rcases hg x e with e2|e2
   ·exact .inl (.inr (.inl e2))
   ·exact .inr e2.1
  ·exact .inl (.inr (.inr e))
 ·rcases hg g e with e2|e2
  ·exact h.vlo g e2
  ·omega
theorem info_rask:(Tryz.prog.info? 171).map (fun i=>(i.zero,i.size,i.bytes))=some (some (.agg #[.int .i64 0,.int .i64 0,.slice none 0 0,.int .i64 0,.int .i64 0,.bool false,.bool false,.bool false,.bool false,.slice none 0 0,.slice none 0 0]),11,112):=by kernel_rfl
theorem RsP.askMore{U:List Nat}{w w3 w7:World}{L:RLay}{cf:Cfg}{s:Cs}{κ:Nat->Nat}{VS VW VL VA VD v7 fv:Value}{obj:Obj}{us:List Value}(h:RsP U w L cf s κ VS VW VL VA VD)(a:Ask)(ha0:a.hinted=false/\a.answered=false/\a.ms=[])(hus:RaOk (L.all++U) w s.asks us)(hga:VA.ownBlock=L.ga)(k3:Kp [] w w3)(hf:BSl (L.all++U) w3 fv a.frame)
 (o7:w7.ownsRow 0 171 11 v7 (s.asks.length+1) (us++askV a fv (.slice none 0 0))) (k7:Kp VA.ownBlock.toList (w3.alloc obj) w7) (a7:At (w3.heap.size+1) VA.ownBlock v7.ownBlock):
 w7.cell? ⟨L.b,7,none⟩=some VA/\w7.frozen? ⟨L.b,7,none⟩=false/\∃L2,RsSt U (w7.setCell ⟨L.b,7,none⟩ v7) L2 cf {s with asks:=s.asks++[a]}/\RGrew w L L2/\Kp L.all w (w7.setCell ⟨L.b,7,none⟩ v7):=by
 have hsep:=h.sep
 have hs3:=k3.size
 have hbl:=lt_of_block h.hd
 have s7:=k7.size
 simp only[World.size_alloc] at s7
 have hvl:∀g,VA.ownBlock=some g->κ g=4/\g<w.heap.size:=fun g e=>hsep.ga g (by rw[<-hga];exact e)
 have nb:L.b∉VA.ownBlock.toList:=fun e=>by
  have:=hvl L.b (by simpa using e)
  have:=hsep.b
  omega
 have kA:Kp VA.ownBlock.toList w3 w7:=((Kp.refl VA.ownBlock.toList w3).alloc _).trans k7 (fun x hx=> .inl hx)
 have hb7:=kA.blk (k3.blk h.hd (by simp)) nb
 have kS:Kp [L.b] w7 (w7.setCell ⟨L.b,7,none⟩ v7):=(Kp.refl _ w7).setCell (.inl (by simp)) _
 have s9:=kS.size
 have kB:Kp (L.b::VA.ownBlock.toList) w3 (w7.setCell ⟨L.b,7,none⟩ v7):=(kA.mono (fun x hx=> .inl (List.mem_cons_of_mem _ hx))).trans kS (fun x hx=> .inl (by simp at hx;simp[hx]))
 have kT:Kp (L.b::VA.ownBlock.toList) w (w7.setCell ⟨L.b,7,none⟩ v7):=(k3.mono (fun x hx=>by simp at hx)).trans kB (fun x hx=> .inl hx)
 have hVm:∀x∈L.b::VA.ownBlock.toList,x∈L.all:=fun x hx=>by
  rcases List.mem_cons.1 hx with e|e
  ·exact RLay.mem.2 (.inl e)
  ·exact RLay.mem.2 (.inr (.inr (.inr (.inl (by rw[<-hga];simpa using e)))))
 have hV:∀x∈L.b::VA.ownBlock.toList,x∈L.all++U\/w.heap.size<=x:=fun x hx=> .inl (List.mem_append.2 (.inl (hVm x hx)))
 have hv7:∀g,v7.ownBlock=some g->VA.ownBlock=some g\/w3.heap.size<g/\g<w7.heap.size:=fun g e=>by
  have hl:=own_lt o7 g e
  rcases a7 with e2|⟨y,e2,hy⟩
  ·rw[e2] at e;exact .inl e
  ·rw[e2] at e
   cases e
   exact .inr (by omega)
 have u:RUpd L {L with ga:=v7.ownBlock} w (w7.setCell ⟨L.b,7,none⟩ v7):=by
  refine⟨rfl,rfl,fun x e=> .inl e,fun x e=> ?_,fun x e=> .inl e,fun x hx=>⟨fun e=>(by have:=hsep.gL x e;omega),fun _ e=>(by have:=hsep.gd x e;omega)⟩⟩
  rcases hv7 x e with e2|e2
  ·exact .inl (by rw[<-hga];exact e2)
  ·exact .inr (by omega)
 have hS3:∀x∈({L with ga:=v7.ownBlock}:RLay).all++U,x∈L.all++U\/w3.heap.size<=x:=fun x hx=>by
  rcases List.mem_append.1 hx with e|e
  ·rcases RLay.mem.1 e with e|e|e|e|e
   ·exact .inl (List.mem_append.2 (.inl (RLay.mem.2 (.inl e))))
   ·exact .inl (List.mem_append.2 (.inl (RLay.mem.2 (.inr (.inl e)))))
   ·exact .inl (List.mem_append.2 (.inl (RLay.mem.2 (.inr (.inr (.inl e))))))
   ·rcases hv7 x e with e2|e2
    ·exact .inl (List.mem_append.2 (.inl (RLay.mem.2 (.inr (.inr (.inr (.inl (by rw[<-hga];exact e2))))))))
    ·exact .inr (by omega)
   ·exact .inl (List.mem_append.2 (.inl (RLay.mem.2 (.inr (.inr (.inr (.inr e)))))))
  ·exact .inl (List.mem_append.2 (.inr e))
 have ne:∀x c,κ x=c->c≠1->c≠4->x∉L.b::VA.ownBlock.toList:=fun x c hx h1 h3 hm=>by
  rcases List.mem_cons.1 hm with e|e
  ·subst e;have:=hsep.b;omega
  ·have:=hvl x (by simpa using e);omega
 refine⟨bkc hb7 7 rfl,blk_free hb7 7,{L with ga:=v7.ownBlock},h.upd (s2:={s with asks:=s.asks++[a]}) kT hV (ne _ 2 hsep.gw.1 (by decide) (by decide)) u (heap_setCell_same w7 L.b 7 _ _ v7 hb7) rfl (h.jq0 kT hV u (fun x e=>ne _ _ (hsep.gL x e).1 (by decide) (by decide)) rfl) ⟨us++askV a fv (.slice none 0 0), ?_, ?_,rfl⟩ (h.dn0 kT hV u (fun x e=>ne _ _ (hsep.gd x e).1 (by decide) (by decide)) rfl),u.grew,kT.mono (fun x hx=> .inl (hVm x hx))⟩
 ·show World.ownsRow _ 0 _ 11 v7 (s.asks++[a]).length _
  rw[List.length_append]
  refine kS.own o7 (fun x e hm=> ?_)
  simp at hm
  subst hm
  rcases hv7 _ e with e2|e2
  ·exact nb (by simpa using e2)
  ·omega
 ·refine RaOk.snoc (hf.kp kB (fun x hx=> .inl (List.mem_append.2 (.inl (hVm x hx)))) hS3) ?_ (hus.kp kT hV u.sub)
  rw[ha0.2.2]
  exact MSl.nil _ _
theorem BgS.more{U:List Nat}{L:RLay}{cf:Cfg}{t:Cs}{ms:List Msg}{j:Job}{w:World}{jb:Nat}{At:Option Addr}{nt ct:Nat}{v:Value}{Lk:RLay}{wr:World}(h:BgS U L cf t ms j w jb At nt ct v Lk wr){fv:Value}{a:Ask}(ha0:a.hinted=false/\a.answered=false/\a.ms=[]):
 ∃AA cA us,wr.cell? ⟨Lk.b,7,none⟩=some (.slice AA t.asks.length cA)/\(∀w3,Kp [] wr w3->w3.ownsRow 0 171 11 (.slice AA t.asks.length cA) t.asks.length us)/\
  ∀w3 v7 w7 obj,Kp [] wr w3->BSl (Lk.all++(jb::(v.ownBlock.toList++U))) w3 fv a.frame->w7.ownsRow 0 171 11 v7 (t.asks.length+1) (us++askV a fv (.slice none 0 0))->Kp (Value.slice AA t.asks.length cA).ownBlock.toList (w3.alloc obj) w7->H.At (w3.heap.size+1) (Value.slice AA t.asks.length cA).ownBlock v7.ownBlock->
   w7.cell? ⟨Lk.b,7,none⟩=some (.slice AA t.asks.length cA)/\w7.frozen? ⟨Lk.b,7,none⟩=false/\∃L2,BgS U L cf {t with asks:=t.asks++[a]} ms j w jb At nt ct v L2 (w7.setCell ⟨Lk.b,7,none⟩ v7):=by
 obtain⟨κ,VS,VW,VL,VA,VD,hp⟩:=h.st
 obtain⟨us,o1,o2,hga⟩:=id hp.aq
 obtain⟨AA,cA,rfl,_⟩:=own_rd o1
 refine⟨AA,cA,us,bkc hp.hd 7 rfl,fun w3 k3=>k3.own o1 (by simp),fun w3 v7 w7 obj k3 hf o7 k7 a7=> ?_⟩
 obtain⟨q1,q2,L2,q3,q4,q5⟩:=hp.askMore a ha0 o2 hga k3 hf o7 k7 a7
 have hbl:Lk.b∈Lk.all:=RLay.mem.2 (.inl rfl)
 have napart:jb∉Lk.all:=fun hm=>by have:=(hp.sep.U jb (by simp)).1;have:=(hp.sep.pos hm).1;omega
 refine⟨q1,q2,L2,q3,⟨q4.1.trans h.gr.1,fun x hx=>(q4.2 x hx).elim (fun e=>h.gr.2 x e) (fun e=> .inr (Nat.le_trans h.kp.size e))⟩,h.out.kp q5 (fun x hx=> .inl (by simp[hx])) (fun x hx=> ?_),h.kp.trans q5 (fun x hx=>h.gr.2 x hx),h.jbk.kp q5 napart,h.tx.kp q5 (fun x hx=> .inl (by simp[hx])) (fun x hx=> ?_),h.vlo⟩
 ·simp only[List.mem_cons,List.mem_append] at hx⊢
  rcases hx with e|e|e
  ·exact .inl (.inl e)
  ·exact(q4.2 x e).imp (fun e=> .inr (.inl e)) id
  ·exact .inl (.inr (.inr e))
 ·simp only[List.mem_cons,List.mem_append] at hx⊢
  rcases hx with e|e|e|e
  ·exact .inl (.inl e)
  ·exact .inl (.inr (.inl e))
  ·exact(q4.2 x e).imp (fun e=> .inr (.inr (.inl e))) id
  ·exact .inl (.inr (.inr (.inr e)))
end Go.Proofs.YtdiljpdohmeceaaGreat.co.cr
namespace Go.Proofs.YtdiljpdohmeceaaGreat.O
open Go.RowKit H
def fOne(b:List Int):List Int×Int:=if(fDec b).2.2=0/\(fDec b).2.1≠b.length then([],3) else((fDec b).1,(fDec b).2.2)
theorem fDec_wf{b:List Int}(h:Wf b):Wf (fDec b).1:=by
 unfold fDec
 repeat' split
 all_goals first
  |exact Wf.nil
  |exact(h.take _).drop _
end Go.Proofs.YtdiljpdohmeceaaGreat.O
namespace Go.Proofs.YtdiljpdohmeceaaGreat.frame
open Go.RowKit H O joins
def FOne(xs:List Int)(w:World)(e:Ending)(w':World):Prop:=
 ∃v,e= .returned (.tuple #[v,.int .i64 (fOne xs).2])/\Own 5 .u8 w' w.heap.size v (fOne xs).1/\Kp [] w w'
theorem one_any(A:Option Addr)(n c:Nat)(xs:List Int)(w:World)(hn:xs.length=n)(hr:Rd w A (iv .u8 xs))(hc:n<=c)(hw:Wf xs)(hm:n<=140737488351232):
 Calls Tryz.prog 113 #[.slice A n c] w (FOne xs w):=by
 have HD:=dec_any A n c xs w hn hr hc hw hm
 unfold FDec at HD
 obtain⟨e,he⟩:∃e,(fDec xs).2.2=e:=⟨_,rfl⟩
 obtain⟨k,hk⟩:∃k,(fDec xs).2.1=k:=⟨_,rfl⟩
 rw[he,hk] at HD
 have HD:=As.mk HD
 by_cases h0:e=0
 ·subst h0
  by_cases h1:k=n
  ·subst h1
   have HE:As (fOne xs=((fDec xs).1,0)):=⟨by rw[fOne,if_neg (by rw[hk];omega),he]⟩
   clear hr hw hn he hk
   go_enter Tryz.func113,Tryz.ntmps113
   go_wp2_with (go_at_call 128;refine HD.out.mono ?_;rintro e w1 ⟨v,rfl,o1,k1⟩;have HO:=As.mk o1;have HK:=As.mk k1;clear o1 k1)
   go_ret2
   refine⟨v,by rw[HE.out];rfl, ?_,HK.out⟩
   rw[HE.out]
   exact HO.out
  ·have HE:As (fOne xs=([],3)):=⟨by rw[fOne,if_pos ⟨he,by rw[hk];omega⟩]⟩
   have hkn:((k:Int) !=(n:Int))=true:=by simp;omega
   clear hr hw hn he hk
   go_enter Tryz.func113,Tryz.ntmps113
   go_wp2_with (go_at_call 128;refine HD.out.mono ?_;rintro e w1 ⟨v,rfl,o1,k1⟩;have HK:=As.mk k1;clear o1 k1)
   go_ret2
   refine⟨_,by rw[HE.out];rfl, ?_,HK.out⟩
   rw[HE.out]
   exact Own.nil _ _ _ _
 ·have HE:As (fOne xs=((fDec xs).1,e)):=⟨by rw[fOne,if_neg (by rw[he];omega),he]⟩
  have h0b:(e==0)=false:=by simpa using h0
  clear hr hw hn he hk
  go_enter Tryz.func113,Tryz.ntmps113
  go_wp2_with (go_at_call 128;refine HD.out.mono ?_;rintro e w1 ⟨v,rfl,o1,k1⟩;have HO:=As.mk o1;have HK:=As.mk k1;clear o1 k1)
  go_ret2
  refine⟨v,by rw[HE.out];rfl, ?_,HK.out⟩
  rw[HE.out]
  exact HO.out
end Go.Proofs.YtdiljpdohmeceaaGreat.frame
namespace Go.Proofs.YtdiljpdohmeceaaGreat.H
open Go.RowKit
end Go.Proofs.YtdiljpdohmeceaaGreat.H
namespace Go.Proofs.YtdiljpdohmeceaaGreat.frame
open Go.RowKit H O joins
end Go.Proofs.YtdiljpdohmeceaaGreat.frame
namespace Go.Proofs.YtdiljpdohmeceaaGreat.O
open Go.RowKit H
end Go.Proofs.YtdiljpdohmeceaaGreat.O
namespace Go.Proofs.YtdiljpdohmeceaaGreat.frame
open Go.RowKit H O joins
end Go.Proofs.YtdiljpdohmeceaaGreat.frame
namespace Go.Proofs.YtdiljpdohmeceaaGreat.ref1
open Go.RowKit H O
theorem four_any(v:Int)(w:World)(h0:0<=v)(h1:v<4294967296):Calls Tryz.prog 81 #[.int .u32 v] w fun e w'=>e= .returned (.slice (some ⟨w.heap.size,0,none⟩) 4 4)/\w'=w.alloc (.cells (iv .u8 (four v)).toArray 5):=by
 go_enter Tryz.func81,Tryz.ntmps81
 go_wp2
 go_ret
 have e:v/16777216%256=v/16777216:=by omega
 refine⟨rfl, ?_⟩
 show _=w.alloc (.cells #[.int .u8 (v%256),.int .u8 (v/256%256),.int .u8 (v/65536%256),.int .u8 (v/16777216%256)] 5)
 rw[e]
theorem from_any(A:Option Addr)(n c:Nat)(xs:List Int)(w:World)(hn:xs.length=n)(h0:Rd w A (iv .u8 xs))(hw:Wf xs)(h4:4<=n):Calls Tryz.prog 112 #[.slice A n c] w fun e w'=>e= .returned (.int .u32 (unf xs))/\∃k,w'=w.drewN k:=by
 obtain⟨a,rfl,d0⟩:=h0.int 0 (by omega)
 obtain⟨_,e,d1⟩:=h0.int 1 (by omega)
 cases e
 obtain⟨_,e,d2⟩:=h0.int 2 (by omega)
 cases e
 obtain⟨_,e,d3⟩:=h0.int 3 (by omega)
 cases e
 obtain⟨x0,h0'⟩:∃x,xs[0]=x:=⟨_,rfl⟩
 obtain⟨x1,h1'⟩:∃x,xs[1]=x:=⟨_,rfl⟩
 obtain⟨x2,h2'⟩:∃x,xs[2]=x:=⟨_,rfl⟩
 obtain⟨x3,h3'⟩:∃x,xs[3]=x:=⟨_,rfl⟩
 rw[h0'] at d0
 rw[h1'] at d1
 rw[h2'] at d2
 rw[h3'] at d3
 have k0:0<n:=by omega
 have k1:(1:Int)<(n:Int):=by omega
 have k2:(2:Int)<(n:Int):=by omega
 have k3:(3:Int)<(n:Int):=by omega
 obtain⟨b,o,s⟩:=a
 obtain rfl:s=none:=by simpa [Addr.add] using World.cell?_spot d0
 rw[Go.WideShapes.add_plain] at d0 d1 d2 d3
 rw[Nat.add_zero] at d0
 have HV:=As.mk (from_val x0 x1 x2 x3 (by rw[<-h0'];exact hw _ (List.getElem_mem _)) (by rw[<-h1'];exact hw _ (List.getElem_mem _)) (by rw[<-h2'];exact hw _ (List.getElem_mem _)) (by rw[<-h3'];exact hw _ (List.getElem_mem _)))
 have HU:As (unf xs=x0+x1*256+x2*65536+x3*16777216):=⟨by
  rw[<-h0',<-h1',<-h2',<-h3',unf]
  simp only[List.getD_eq_getElem?_getD]
  rw[List.getElem?_eq_getElem (by omega),List.getElem?_eq_getElem (by omega),List.getElem?_eq_getElem (by omega),List.getElem?_eq_getElem (by omega)]
  rfl⟩
 clear h0 hn h0' h1' h2' h3' hw
 go_enter Tryz.func112,Tryz.ntmps112
 go_wp2
 go_region_held3 (fun w'=>w'.cell? ⟨b,o,none⟩=some (.int .u8 x0)/\w'.cell? ⟨b,o+1,none⟩=some (.int .u8 x1)/\w'.cell? ⟨b,o+2,none⟩=some (.int .u8 x2)/\w'.cell? ⟨b,o+3,none⟩=some (.int .u8 x3)) (exact⟨d0,d1,d2,d3⟩) (fail)
 go_wp2
 go_ret
 rw[HU.out,<-HV.out]
 exact⟨rfl,1,rfl⟩
end Go.Proofs.YtdiljpdohmeceaaGreat.ref1
