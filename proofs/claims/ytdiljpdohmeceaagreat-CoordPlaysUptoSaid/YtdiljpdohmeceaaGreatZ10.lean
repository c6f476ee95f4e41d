/- Words and walks that this claim rests on: proved lemmas alone. -/
import Derived.Test.YtdiljpdohmeceaaGreatZ9
set_option maxHeartbeats 16000000
set_option maxRecDepth 100000
namespace Go.Proofs.YtdiljpdohmeceaaGreat.clone
open Go.RowKit H
end Go.Proofs.YtdiljpdohmeceaaGreat.clone
namespace Go.Proofs.YtdiljpdohmeceaaGreat.co
open Go.RowKit H O opk frame wir
theorem ri_nil{S:List Nat}{w:World}{b o j n cj:Nat}{Aj:Option Addr}{l:List (List Int)}(h:Ri S w (some ⟨b,o,none⟩) l)(hj:j<l.length)(hc:w.cell? ⟨b,o+j,none⟩=some (.slice Aj n cj)):Aj=none->cj=0:=by
 obtain⟨a,A2,c2,ha,_,h1,_,h2,_⟩:=h j hj
 cases ha
 rw[Go.WideShapes.add_plain,hc] at h1
 cases h1
 exact h2
def newCs(n:Nat):Cs:=⟨List.replicate n 0,[],0,0,[],[]⟩
structure NewI(w:World)(id pat tr:Nat)(n b k:Nat)(l:List (List Int))(wr:World)(VS:Value):Prop where
 blk:wr.heap[b]?=some (.cells #[.int .i64 (id:Int),.int .i64 (pat:Int),.int .i64 (tr:Int),VS,.slice (some ⟨w.heap.size,0,none⟩) n n,.slice none 0 0,.int .i64 0,.int .i64 0,.slice none 0 0] 95 (0,0))
 sh:OwnL [b,w.heap.size] wr w.heap.size VS (l.take k)
 gv:∀g,VS.ownBlock=some g->g≠b/\g≠w.heap.size
 wh:wr.ownsRow 0 3 1 (.slice (some ⟨w.heap.size,0,none⟩) n n) n (iv .i64 (List.replicate n 0))
 kp:Kp [] w wr
 lo:w.heap.size<b
theorem NewI.fin{w wr:World}{id pat tr n b:Nat}{l:List (List Int)}{VS:Value}(h:NewI w id pat tr n b n l wr VS)(hn:l.length=n)(U:List Nat)(hU:∀x∈U,x<w.heap.size):
 CoSt U wr ⟨b,w.heap.size,none,none,none,none,[],[]⟩ ⟨id,pat,tr,l⟩ (newCs n):=by
 have hbl:=lt_of_block h.blk
 have hgl:=own_lt h.wh w.heap.size rfl
 have e:l.take n=l:=List.take_of_length_le (by omega)
 have hsh:=h.sh
 rw[e] at hsh
 obtain⟨A,c,rfl,h1,h2,h3,h4⟩:=hsh.form
 have hmem:∀x∈(⟨b,w.heap.size,none,none,none,none,[],[]⟩:Lay).all++U,x=b\/x=w.heap.size\/x<w.heap.size:=by
  intro x hx
  rcases List.mem_append.1 hx with e|e
  ·simp[Lay.all] at e
   rcases e with e|e
   ·exact .inl e
   ·exact .inr (.inl e)
  ·exact .inr (.inr (hU x e))
 refine⟨fun x=>if x=b then 1 else if x=w.heap.size then 2 else 0,.slice A l.length c,.slice (some ⟨w.heap.size,0,none⟩) n n,.slice none 0 0,.slice none 0 0,.slice none 0 0,.slice none 0 0,[],
  ⟨⟨by simp,hbl⟩,⟨by have:=h.lo;show(if w.heap.size=b then 1 else if w.heap.size=w.heap.size then 2 else 0)=2;rw[if_neg (by omega),if_pos rfl],hgl⟩,fun x e=>(by cases e),fun x e=>(by cases e),fun x e=>(by cases e),fun x e=>(by cases e),fun x e=>(by cases e),fun x e=>(by cases e),List.nodup_nil,List.nodup_nil,fun x hx=> ?_⟩,
  h.blk,⟨A,c,rfl,hsh.ri (fun x hx=> ?_),h1,h2,h3⟩,⟨?_,rfl⟩,.inl ⟨rfl,rfl,rfl⟩,⟨[],World.ownsRow_nil _ 0 _ 6,rfl,rfl⟩,rfl,fun i j p e=>(by simp[newCs] at e),rfl,fun i a p e=>(by simp[newCs] at e),⟨World.ownsRow_nil _ 0 _ 1,rfl⟩,⟨World.ownsRow_nil _ 0 _ 2,rfl,by simp[newCs]⟩,fun _=>⟨rfl,rfl⟩⟩
 ·have:=hU x hx
  have:=h.lo
  show(if x=b then 1 else if x=w.heap.size then 2 else 0)=0/\x<wr.heap.size
  rw[if_neg (by omega),if_neg (by omega)]
  exact⟨rfl,by omega⟩
 ·rcases hmem x hx with e|e|e
  ·refine .inl ⟨by simp[e],fun e2=> ?_⟩
   exact(h.gv x (by rw[ownBlock_slice];exact e2)).1 e
  ·refine .inl ⟨by simp[e],fun e2=> ?_⟩
   exact(h.gv x (by rw[ownBlock_slice];exact e2)).2 e
  ·exact .inr (.inl e)
 ·have:=h.wh
  simpa [newCs,iv] using this
theorem new_good(id pat tr:Nat)(A:Option Addr)(n c:Nat)(l:List (List Int))(w:World)(hn:l.length=n)(hr:Ri [] w A l)(hg:∀x∈l,Grp x)(h1:7<=id/\id<=255)(h2:1<=pat/\pat<=1000)(h3:1<=tr/\tr<=1000)(h4:1<=n/\n<=8):
 Calls Tryz.prog 24 #[.int .i64 (id:Int),.int .i64 (pat:Int),.int .i64 (tr:Int),.slice A n c] w fun e w'=>∃L,e= .returned (.tuple #[.pointer (some ⟨L.b,0,none⟩),.int .i64 0])/\
  As (∀U,(∀x∈U,x<w.heap.size)->CoSt U w' L ⟨id,pat,tr,l⟩ (newCs n))/\(∀x∈L.all,w.heap.size<=x)/\Kp [] w w':=by
 have m0:¬(n:Int)<1:=by omega
 have m1:¬(n:Int)>8:=by omega
 have m2:(0:Int)<=(n:Int):=by omega
 have f1:¬(id:Int)<7:=by omega
 have f2:¬(255:Int)<(id:Int):=by omega
 have f3:¬(pat:Int)<1:=by omega
 have f4:¬(1000:Int)<(pat:Int):=by omega
 have f5:¬(tr:Int)<1:=by omega
 have f6:¬(1000:Int)<(tr:Int):=by omega
 obtain⟨ti,hti,hti2⟩:=Option.map_eq_some_iff.1 info_int
 obtain⟨q1,q2,q3⟩:ti.zero=some (.int .i64 0)/\ti.size=1/\ti.bytes=8:=by simpa using hti2
 obtain⟨w1,hmk,ho1,hg1⟩:=run_makeSlice_full (P:=Tryz.prog) (w:=w) 0 53 3 ti (.int .i64 0) 1 Tryz.underlying53 hti q1 q2 .i64 .i64 n (by omega) (by rw[q3];omega) (by simp[maxLen];omega) (Nat.zero_le _)
 have k1:Kp [] w w1:=(Kp.refl [] w).grown hg1 (by simp)
 have HO1:=As.mk ho1
 have HK1:=As.mk k1
 have HN:=As.mk hn
 have HR:=As.mk hr
 have HG:=As.mk hg
 clear hn ho1 hg1 hti hti2 q1 q2 q3 k1 hr hg
 go_enter Tryz.func24,Tryz.ntmps24
 go_wp2_with fail
 have HI0:As (NewI w id pat tr n w1.heap.size 0 l (w1.alloc (.cells #[.int .i64 (id:Int),.int .i64 (pat:Int),.int .i64 (tr:Int),.slice none 0 0,.slice (some ⟨w.heap.size,0,none⟩) n n,.slice none 0 0,.int .i64 0,.int .i64 0,.slice none 0 0] 95)) (.slice none 0 0)):=⟨by
  have hl:=own_lt HO1.out w.heap.size rfl
  refine⟨heap_alloc_new w1 _,OwnL.nil _ _ _,by simp[Value.ownBlock], ?_,HK1.out.alloc _,hl⟩
  have h:=HO1.out.alloc (.cells #[.int .i64 (id:Int),.int .i64 (pat:Int),.int .i64 (tr:Int),.slice none 0 0,.slice (some ⟨w.heap.size,0,none⟩) n n,.slice none 0 0,.int .i64 0,.int .i64 0,.slice none 0 0] 95)
  have e:(madeCells (Value.int .i64 0).cells (n*1)).toList=iv .i64 (List.replicate n 0):=by
   rw[show(Value.int .i64 0).cells= #[.int .i64 0] from rfl,toList_madeCells_one,Nat.mul_one,iv,List.map_replicate]
  rw[e] at h
  exact h⟩
 go_loopw [55] (fun i wr=>∃(k:Nat) (VS:Value),i= .int .i64 (k:Int)/\k<=n/\As (NewI w id pat tr n w1.heap.size k l wr VS)) (fun i _=>n-(intOf i).toNat)
 case atStart=>exact⟨0,_,rfl,by omega,HI0⟩
 case round=>
  obtain⟨k,VS,rfl,hk,HI⟩:=hrel
  by_cases hlt:k<n
  ·have hlt':k<l.length:=by rw[HN.out];exact hlt
   obtain⟨b0,o0,Aj,cj,rfl,_,d0,hcj,hrj⟩:=ri_at HR.out k hlt'
   have hjnil:=ri_nil HR.out hlt' d0
   have d1:=HI.out.kp.cell d0 (by simp)
   obtain⟨x,hx⟩:∃x,x=l[k]:=⟨_,rfl⟩
   rw[<-hx] at d1 hrj hcj
   obtain⟨m,hm⟩:∃m,x.length=m:=⟨_,rfl⟩
   rw[hm] at d1 hcj
   have hgx:Grp x:=by rw[hx];exact HG.out _ (List.getElem_mem _)
   have HGR:=As.mk (group_good Aj m cj x wr hm (HI.out.kp.rd_new hrj.rd (by simp)) hgx)
   have i0:(0:Int)<=(k:Int):=by omega
   have i1:(k:Int)<(n:Int):=by omega
   obtain⟨us,ho,hlo,hvs⟩:=HI.out.sh
   have hlk:(l.take k).length=k:=by rw[List.length_take];omega
   rw[hlk] at ho
   obtain⟨AV,cV,rfl,_⟩:=own_rd ho
   have c3:wr.cell? ⟨w1.heap.size,3,none⟩=some (.slice AV k cV):=bkc HI.out.blk 3 rfl
   have f3':=blk_free HI.out.blk 3
   have hm7:=hgx.1
   have HCX:As (∀wX,Kp [] wr wX->Calls Tryz.prog 72 #[.slice Aj m cj] wX fun e w2=>∃A2 c2,e= .returned (.slice A2 m c2)/\Kp [] wr w2/\As (Own 3 .i64 w2 wr.heap.size (.slice A2 m c2) x)):=⟨fun wX kX=>by
    refine(clone.ints_any Aj m cj x wX hm ((HI.out.kp.trans kX (by simp)).rd_new hrj.rd (by simp)) hjnil (by omega)).mono ?_
    rintro e w2 ⟨v,rfl,o2,k2⟩
    obtain⟨A2,c2,rfl,_⟩:=own_rd o2.1
    rw[hm] at o2⊢
    exact⟨A2,c2,rfl,kX.trans k2 (by simp),⟨o2.lower kX.size⟩⟩⟩
   have HOWs:∀wX,Kp [] wr wX->wX.ownsRow 0 53 1 (.slice AV k cV) k us:=fun wX kX=>kX.own ho (by simp)
   have HFIN:As (∀w2 A2 c2 v3 w3,Kp [] wr w2->Own 3 .i64 w2 wr.heap.size (.slice A2 m c2) x->w3.ownsRow 0 53 1 v3 (k+1) (us++[.slice A2 m c2])->Kp (Value.slice AV k cV).ownBlock.toList (w2.alloc (.cells #[.slice A2 m c2] 53)) w3->At (w2.heap.size+1) (Value.slice AV k cV).ownBlock v3.ownBlock->
    w3.cell? ⟨w1.heap.size,3,none⟩=some (.slice AV k cV)/\w3.frozen? ⟨w1.heap.size,3,none⟩=false/\As (NewI w id pat tr n w1.heap.size (k+1) l (w3.setCell ⟨w1.heap.size,3,none⟩ v3) v3)):=⟨by
    intro w2 A2 c2 v3 w3 k2 o2 o3 k3 a3
    have hov:=HI.out.gv
    have hsz:=HI.out.kp.size
    have hs2:=k2.size
    have hbl:=lt_of_block HI.out.blk
    have hgl:w.heap.size<wr.heap.size:=own_lt HI.out.wh w.heap.size rfl
    have hvb:w1.heap.size∉(Value.slice AV k cV).ownBlock.toList:=by
     intro e
     exact(hov _ (by simpa using e)).1 rfl
    have hb3:=k3.blk (blk_alloc (k2.blk HI.out.blk (by simp)) _) hvb
    have hu2:Own 3 .i64 w2 w.heap.size (.slice A2 m c2) x:=o2.lower hsz
    have hsnoc:OwnL [w1.heap.size,w.heap.size] w3 w.heap.size v3 (l.take k++[x]):=by
     have kA:Kp [] wr (w2.alloc (.cells #[.slice A2 m c2] 53)):=k2.alloc _
     have hL:OwnL [w1.heap.size,w.heap.size] (w2.alloc (.cells #[.slice A2 m c2] 53)) w.heap.size (.slice AV k cV) (l.take k):=HI.out.sh.kp kA (by simp) (by simp) (fun x hx=> .inl hx)
     have kB:Kp [] w2 (w2.alloc (.cells #[.slice A2 m c2] 53)):=(Kp.refl [] w2).alloc _
     refine OwnL.snoc hlk hL (HOWs _ kA) (hu2.kp kB (by simp)) (fun y hy=>⟨fun hm=> ?_,fun e=> ?_⟩) o3 k3 (by simpa using a3) (by simp;omega)
     ·have h8:=o2.2 y hy
      simp only[List.mem_cons,List.not_mem_nil,or_false] at hm
      rcases hm with e|e<;>omega
     ·have h8:=o2.2 y hy
      have h9:=own_lt (HOWs wr (Kp.refl _ _)) y e
      omega
    have htk:l.take (k+1)=l.take k++[x]:=by rw[hx];exact List.take_succ_eq_append_getElem hlt'
    have kS:Kp [w1.heap.size] w3 (w3.setCell ⟨w1.heap.size,3,none⟩ v3):=(Kp.refl _ w3).setCell (.inl (by simp)) _
    have hgv3:∀g,v3.ownBlock=some g->g≠w1.heap.size/\g≠w.heap.size:=by
     intro g e
     rcases a3 with e2|⟨y,e2,hy⟩
     ·rw[e2] at e;exact hov g e
     ·rw[e2] at e
      cases e
      have:=HI.out.lo
      omega
    have kAll:Kp [] w w3:=(HI.out.kp.trans (k2.alloc _) (by simp)).trans k3 (fun y hy=> .inr (by
     have h8:(Value.slice AV k cV).ownBlock=some y:=by simpa using hy
     exact hlo y h8))
    have hlo2:=HI.out.lo
    refine⟨bkc hb3 3 rfl,blk_free hb3 3,⟨⟨heap_setCell_same w3 w1.heap.size 3 _ _ v3 hb3, ?_,hgv3, ?_,kAll.trans kS (by intro y hy;simp at hy;omega),hlo2⟩⟩⟩
    ·rw[htk]
     refine hsnoc.kp kS (fun y hy=> .inl (by simp at hy;simp[hy])) (fun g e hm=> ?_) (fun x hx=> .inl hx)
     simp at hm
     exact(hgv3 g e).1 hm
    ·refine kS.own (k3.own ((k2.alloc _).own HI.out.wh (by simp)) (fun g e hm=> ?_)) (fun g e hm=> ?_)
     ·have e:g=w.heap.size:=by simpa [Value.ownBlock] using e.symm
      exact(hov g (by simpa using hm)).2 e
     ·have e:g=w.heap.size:=by simpa [Value.ownBlock] using e.symm
      simp at hm
      omega⟩
   have HOX:As (∀wX,Kp [] wr wX->wX.ownsRow 0 53 1 (.slice AV k cV) k us):=⟨fun wX kX=>kX.own ho (by simp)⟩
   clear hjnil hx hrj hcj hm hgx ho hlo hvs hlk hlt' d0 hm7 HOWs
   go_upto_region 9 with(go_at_call 71;refine HGR.out.mono ?_;rintro e wg ⟨rfl,kg⟩;have HKG:=As.mk kg;have c3g:=kg.cell c3 (by simp);clear kg)
   go_region_law (first
    |(go_simp;go_at_call 72;refine(HCX.out _ (by first|exact HKG.out|exact HKG.out.drew|exact HKG.out.drewN _)).mono ?_;rintro e w2 ⟨A2,c2,rfl,k2,HO2⟩;have HK2:=As.mk k2;have c32:=k2.cell c3 (by simp);have n2:w1.heap.size<w2.heap.size:=World.block_lt_of_cell? w2 _ c32;have n3:¬w1.heap.size=w2.heap.size:=Nat.ne_of_lt n2;clear k2)
    |(refine step_app rfl (.tmp 66) (.tmp 69) 79 rfl 53 (.slice none 0 0) 1 24 Tryz.underlying79 info_row rfl (by decide) (.slice AV k cV) k us rfl (HOX.out _ (by first|exact(HK2.out.alloc _).drew|exact(HK2.out.drew.alloc _)|exact(HK2.out.alloc _))) (some ⟨w2.heap.size,0,none⟩) 1 1 [.slice A2 m c2] rfl rfl (by first|exact((Kp.refl [] _).drew).rd_new (rd_new w2 [.slice A2 m c2] 53) (by simp)|exact rd_new w2 [.slice A2 m c2] 53) (by simp) (by simp[Value.oneCell']) (by omega) (by omega) ?_;intro v7 w7 o7 k7 a7;obtain⟨A7,c7,rfl,_⟩:=own_rd o7;obtain⟨y0,y1,HZ⟩:=HFIN.out w2 A2 c2 _ w7 HK2.out HO2.out o7 (by first|exact k7|exact(Kp.refl _ _).drew.trans k7 (fun x hx=> .inl hx)) (by simpa using a7);clear o7 k7 a7))
   all_goals
    go_wp2_with fail
    go_roundw
    case rel=>exact⟨k+1,_,by go_num,by omega,HZ⟩
    case measure=>simp[intOf];omega
  ·obtain rfl:k=n:=by omega
   go_wp2_with fail
   go_ret2
   have hb:=HI.out.lo
   refine⟨⟨w1.heap.size,w.heap.size,none,none,none,none,[],[]⟩,rfl,⟨HI.out.fin HN.out⟩,fun x hx=> ?_,HI.out.kp⟩
   simp[Lay.all] at hx
   omega
theorem OutI.form{S:List Nat}{w:World}{v:Value}{ms:List Msg}(h:OutI S w v ms):∃A c,v= .slice A ms.length c/\ms.length<=c/\(A=none->c=0):=by
 obtain⟨vs,h1,_,_⟩:=h
 obtain⟨A,c,rfl,h2,_,_,h3⟩:=own_rd h1
 exact⟨A,c,rfl,h2,h3⟩
theorem MsOk.get{S:List Nat}{w:World}:∀{l:List Msg} {vs:List Value} {i:Nat} {m:Msg},MsOk S w l vs->l[i]?=some m->∃dv,vs[i*3]?=some (.int .i64 m.frm)/\vs[i*3+1]?=some (.int .i64 m.dst)/\vs[i*3+2]?=some dv/\BSl S w dv m.data
 |[],_,_,_,_,h=>by simp at h
 |x::l,vs,0,m,⟨dv,b,h1,h2,_⟩,h=>by
  cases h
  subst h1
  exact⟨dv,rfl,rfl,rfl,h2⟩
 |x::l,vs,i+1,m,⟨dv,b,h1,_,h3⟩,h=>by
  subst h1
  obtain⟨d,g1,g2,g3,g4⟩:=MsOk.get h3 (i:=i) (m:=m) (by simpa using h)
  refine⟨d, ?_, ?_, ?_,g4⟩
  ·rw[show(i+1)*3=i*3+3 by omega];exact g1
  ·rw[show(i+1)*3+1=i*3+1+3 by omega];exact g2
  ·rw[show(i+1)*3+2=i*3+2+3 by omega];exact g3
theorem OutI.at{S:List Nat}{w:World}{g n c:Nat}{ms:List Msg}(h:OutI S w (.slice (some ⟨g,0,none⟩) n c) ms){i:Nat}{m:Msg}(hi:ms[i]?=some m):
 ∃dv,w.cell? ⟨g,i*3,none⟩=some (.int .i64 m.frm)/\w.cell? ⟨g,i*3+1,none⟩=some (.int .i64 m.dst)/\w.cell? ⟨g,i*3+2,none⟩=some dv/\BSl (g::S) w dv m.data:=by
 obtain⟨vs,h1,_,h3⟩:=h
 have hn:ms.length=n:=by
  rcases h1.2 with⟨e,_⟩|⟨_,_,_,e,_⟩
  ·cases e
  ·cases e;rfl
 have hl:=(List.getElem?_eq_some_iff.1 hi).1
 obtain⟨dv,g1,g2,g3,g4⟩:=h3.get hi
 rw[<-hn] at h1
 exact⟨dv,by rw[h1.cellAt _ (by omega)];exact g1,by rw[h1.cellAt _ (by omega)];exact g2,by rw[h1.cellAt _ (by omega)];exact g3,by simpa [Value.ownBlock] using g4⟩
theorem OutI.pos{S:List Nat}{w:World}{v:Value}{ms:List Msg}(h:OutI S w v ms)(hp:0<ms.length):∃g c,v= .slice (some ⟨g,0,none⟩) ms.length c/\ms.length<=c/\g∉S:=by
 obtain⟨vs,h1,h2,_⟩:=h
 obtain⟨g,c,rfl,h3,_⟩:=own_form h1 hp
 exact⟨g,c,rfl,h3,h2 g rfl⟩
theorem ri_two(w:World)(xs ys:List Int)(n m:Nat)(hn:xs.length=n)(hm:ys.length=m)(t u:TypeId):
 Ri [] (((w.alloc (.cells (iv .i64 xs).toArray t)).alloc (.cells (iv .i64 ys).toArray t)).alloc (.cells #[.slice (some ⟨w.heap.size,0,none⟩) n n,.slice (some ⟨w.heap.size+1,0,none⟩) m m] u)) (some ⟨w.heap.size+1+1,0,none⟩) [xs,ys]:=by
 subst hn hm
 obtain⟨w1,h1⟩:∃w1,w1=w.alloc (.cells (iv .i64 xs).toArray t):=⟨_,rfl⟩
 obtain⟨w2,h2⟩:∃w2,w2=w1.alloc (.cells (iv .i64 ys).toArray t):=⟨_,rfl⟩
 have s1:w1.heap.size=w.heap.size+1:=by rw[h1];simp
 have s2:w2.heap.size=w.heap.size+1+1:=by rw[h2,World.size_alloc,s1]
 rw[<-h1,<-h2]
 obtain⟨W,hW⟩:∃W,W=w2.alloc (.cells #[.slice (some ⟨w.heap.size,0,none⟩) xs.length xs.length,.slice (some ⟨w.heap.size+1,0,none⟩) ys.length ys.length] u):=⟨_,rfl⟩
 rw[<-hW]
 have k12:Kp [] w1 w2:=by rw[h2];exact(Kp.refl [] w1).alloc _
 have k2W:Kp [] w2 W:=by rw[hW];exact(Kp.refl [] w2).alloc _
 have r1:Rd W (some ⟨w.heap.size,0,none⟩) (iv .i64 xs):=by
  have:=rd_new w (iv .i64 xs) t
  rw[<-h1] at this
  exact(k12.trans k2W (by simp)).rd_new this (by simp)
 have r2:Rd W (some ⟨w.heap.size+1,0,none⟩) (iv .i64 ys):=by
  have:=rd_new w1 (iv .i64 ys) t
  rw[<-h2,s1] at this
  exact k2W.rd_new this (by simp)
 have hb:W.heap[w.heap.size+1+1]?=some (.cells #[.slice (some ⟨w.heap.size,0,none⟩) xs.length xs.length,.slice (some ⟨w.heap.size+1,0,none⟩) ys.length ys.length] u):=by
  rw[<-s2,hW]
  exact heap_alloc_new w2 _
 intro j hj
 match j,hj with
 |0,hj=>exact⟨_,_,_,rfl,by simp,by rw[Addr.add_lit];exact bkc hb 0 rfl,Nat.le_refl _,by simp,RdS.new r1 (Kp.refl [] W) (by simp)⟩
 |1,hj=>exact⟨_,_,_,rfl,by simp,by rw[Addr.add_lit];exact bkc hb 1 rfl,Nat.le_refl _,by simp,RdS.new r2 (Kp.refl [] W) (by simp)⟩
def kCfg:Cfg:=⟨20,5,3,[[0,1],[1,2]]⟩
theorem grp01:Grp [0,1]:=⟨by decide,fun i h=>by
 have:i=0\/i=1:=by simp at h;omega
 rcases this with rfl|rfl
 ·exact⟨by simp,by omega⟩
 ·exact⟨by simp,fun _=>by simp⟩⟩
theorem grp12:Grp [1,2]:=⟨by decide,fun i h=>by
 have:i=0\/i=1:=by simp at h;omega
 rcases this with rfl|rfl
 ·exact⟨by simp,by omega⟩
 ·exact⟨by simp,fun _=>by simp⟩⟩
theorem newCs_ok{cf:Cfg}(h:CfgOk cf):CsOk cf (newCs cf.shards.length):=by
 refine⟨h,by simp[newCs],fun i h1 h2=> ?_,by simp[newCs],by simp[newCs],fun _=>rfl,by simp[newCs]⟩
 have:=(h.grp _ (List.getElem_mem h2)).1
 simp[newCs]
 omega
theorem kCfg_ok:CfgOk kCfg:=⟨by decide,by decide,by decide,by decide,fun x hx=>by
 simp only[kCfg,List.mem_cons,List.not_mem_nil,or_false] at hx
 rcases hx with rfl|rfl
 ·exact grp01
 ·exact grp12⟩
theorem CsOk.more{cf:Cfg}{s:Cs}(h:CsOk cf s){j:Job}(hj:JobOk j):CsOk cf (gives s j):=by
 refine⟨h.cfg,h.wlen,h.whom,fun x hx=> ?_,h.asks,fun e=> ?_,h.few⟩
 ·rcases List.mem_append.1 hx with e|e
  ·exact h.jobs x e
  ·have:x=j:=by simpa using e
   rw[this];exact hj
 ·have e:s.jobs++[j]=[]:=e
  simp at e
theorem jFind_ok{p:List Int}(h:p.length<=64)(hw:Wf p):JobOk (jFind p):=⟨by show 1<=4/\4<=4;omega,fun e=>absurd rfl e,⟨by show p.length<=4096;omega,hw⟩⟩
theorem known_any(w:World):Calls Tryz.prog 7 #[] w fun e w'=>e= .returned (.bool true)/\Kp [] w w':=by
 have kc:=fun(w:World) (C:Array Value) (n c:Nat)=>Lib.run_convert_bytes_const (P:=Tryz.prog) w 24 5 C n c Tryz.underlying24 Tryz.underlying5
 have H1:As (Calls Tryz.prog 24 #[.int .i64 20,.int .i64 5,.int .i64 3,.slice (some ⟨w.heap.size+1+1,0,none⟩) 2 2] (((w.alloc (.cells #[.int .i64 0,.int .i64 1] 3)).alloc (.cells #[.int .i64 1,.int .i64 2] 3)).alloc (.cells #[.slice (some ⟨w.heap.size,0,none⟩) 2 2,.slice (some ⟨w.heap.size+1,0,none⟩) 2 2] 53)) fun e w'=>∃L:Lay,e= .returned (.tuple #[.pointer (some ⟨L.b,0,none⟩),.int .i64 0])/\
  As (CoSt [] w' L kCfg (newCs 2)/\(∀x∈L.all,w.heap.size<=x)/\Kp [] w w')):=⟨by
  refine(new_good 20 5 3 (some ⟨w.heap.size+1+1,0,none⟩) 2 2 [[0,1],[1,2]] _ rfl (ri_two w [0,1] [1,2] 2 2 rfl rfl _ _) kCfg_ok.grp (by decide) (by decide) (by decide) (by decide)).mono ?_
  rintro e w' ⟨L,rfl,hc,hl,hk⟩
  have k0:Kp [] w (((w.alloc (.cells #[.int .i64 0,.int .i64 1] 3)).alloc (.cells #[.int .i64 1,.int .i64 2] 3)).alloc (.cells #[.slice (some ⟨w.heap.size,0,none⟩) 2 2,.slice (some ⟨w.heap.size+1,0,none⟩) 2 2] 53)):=(((Kp.refl [] w).alloc _).alloc _).alloc _
  exact⟨L,rfl,⟨hc.out [] (by simp),fun x hx=>Nat.le_trans k0.size (hl x hx),k0.trans hk (by simp)⟩⟩⟩
 have H2:As (∀wX L,CoSt [] wX L kCfg (newCs 2)->Calls Tryz.prog 25 #[.pointer (some ⟨L.b,0,none⟩),.slice (some ⟨wX.heap.size,0,none⟩) 1 1] (wX.alloc (.cells (iv .u8 [120]).toArray 5 (1,2))) fun e w'=>∃L':Lay,e= .returned (.tuple #[.int .i64 0,.int .i64 0])/\L'.b=L.b/\As (CoSt [] w' L' kCfg (gives (newCs 2) (jFind [120]))/\(∀x∈L'.all,x∈L.all\/wX.heap.size<=x)/\Kp L.all wX w')):=⟨fun wX L hC=>by
  have kA:Kp [] wX (wX.alloc (.cells (iv .u8 [120]).toArray 5 (1,2))):=(Kp.refl [] wX).alloc _
  have h:=find_any [] (wX.alloc (.cells (iv .u8 [120]).toArray 5 (1,2))) L kCfg (newCs 2) (some ⟨wX.heap.size,0,none⟩) 1 1 [120] (hC.kp kA (by simp) (by simp)) (newCs_ok kCfg_ok) (by decide) rfl (rds_mark (S:=[]) wX (iv .u8 [120]) 5 (1,2) (by simp)).rd (by simp) (by omega)
  rw[if_pos (by decide)] at h
  refine h.mono ?_
  rintro e w' ⟨rfl,L',q1,q2,q3⟩
  exact⟨L',rfl,q2.1,⟨q1,fun x hx=>(q2.2 x hx).imp id (fun e=>by simp at e;omega),(kA.mono (by simp)).trans q3 (fun x hx=> .inl hx)⟩⟩⟩
 have htk:(tick kCfg (gives (newCs 2) (jFind [120]))).2=[⟨20,0,frameOf kCfg 0 (jFind [120]) 1 0⟩,⟨20,1,frameOf kCfg 0 (jFind [120]) 2 1⟩]:=rfl
 have H3:As (∀wX L,CoSt [] wX L kCfg (gives (newCs 2) (jFind [120]))->Calls Tryz.prog 11 #[.pointer (some ⟨L.b,0,none⟩)] wX fun e w'=>∃g c,e= .returned (.slice (some ⟨g,0,none⟩) 2 c)/\w'.cell? ⟨g,0,none⟩=some (.int .i64 20)/\w'.cell? ⟨g,1,none⟩=some (.int .i64 0)/\w'.cell? ⟨g,4,none⟩=some (.int .i64 1)/\As (Kp L.all wX w')):=⟨fun wX L hC=>by
  have hj:JobOk (jFind [120]):=jFind_ok (by decide) (by intro x hx;simp at hx;omega)
  refine(tick_begin [] wX L kCfg _ (jFind [120]) [] hC ((newCs_ok kCfg_ok).more hj) rfl rfl (by decide) (by decide)).mono ?_
  rintro e w' ⟨L',v,rfl,q1,q2,q3,q4⟩
  rw[htk] at q2
  obtain⟨g,c,rfl,_,_⟩:=q2.pos (by simp)
  obtain⟨_,c0,c1,_⟩:=q2.at (i:=0) rfl
  obtain⟨_,_,c4,_⟩:=q2.at (i:=1) rfl
  exact⟨g,c,rfl,c0,c1,c4,⟨q4⟩⟩⟩
 clear htk
 go_enter Tryz.func7,Tryz.ntmps7
 go_wp2_with (first
  |(go_at_call 24;refine H1.out.mono ?_;rintro e w1 ⟨L,rfl,HN⟩;have HF:=As.mk (H2.out w1 L HN.out.1);clear H1 H2)
  |(go_at_call 25;refine HF.out.mono ?_;rintro e w2 ⟨L2,rfl,hb,HN2⟩;have HT:=H3.out w2 L2 HN2.out.1;rw[hb] at HT;have HT:=As.mk HT;clear HF H3 hb)
  |(go_at_call 11;refine HT.out.mono ?_;rintro e w3 ⟨g,c,rfl,c0,c1,c4,HN3⟩;clear HT))
 go_ret
 refine⟨rfl, ?_⟩
 have hs:=HN.out.2.2.size
 have k2:=HN.out.2.2.trans HN2.out.2.2 (fun x hx=> .inr (HN.out.2.1 x hx))
 exact k2.trans HN3.out (fun x hx=> .inr ((HN2.out.2.1 x hx).elim (fun e=>HN.out.2.1 x e) (fun e=>by omega)))
theorem may_any(b m:Nat)(key:ByteArray)(w:World)(hm:key.size=m):Calls Tryz.prog 27 #[.pointer (some ⟨b,0,none⟩),.string key] w fun e w'=>e= .returned (.int .i64 (if 1<=m/\m<=64 then 0 else 1))/\w'=w:=by
 by_cases h1:m<1
 ·have i1:(m:Int)<1:=by omega
  rw[if_neg (by omega)]
  go_enter Tryz.func27,Tryz.ntmps27
  go_wp2
  go_ret
  exact⟨rfl,rfl⟩
 ·have i1:¬(m:Int)<1:=by omega
  by_cases h2:64<m
  ·have i2:(64:Int)<(m:Int):=by omega
   rw[if_neg (by omega)]
   go_enter Tryz.func27,Tryz.ntmps27
   go_wp2
   go_ret
   exact⟨rfl,rfl⟩
  ·have i2:¬(64:Int)<(m:Int):=by omega
   rw[if_pos (by omega)]
   go_enter Tryz.func27,Tryz.ntmps27
   go_wp2
   go_ret
   exact⟨rfl,rfl⟩
theorem get_any(U:List Nat)(w:World)(L:Lay)(cf:Cfg)(s:Cs)(key:ByteArray)(hC:CoSt U w L cf s)(ok:CsOk cf s)(hj:nextJ s<=900000):
 Calls Tryz.prog 62 #[.pointer (some ⟨L.b,0,none⟩),.string key] w (if 1<=key.size/\key.size<=64 then NewJ U L cf (nextJ s) 0 (gives s (jGet key)) w else NewJ U L cf 0 1 s w):=by
 have HM:=As.mk (may_any L.b key.size key w rfl)
 by_cases h:1<=key.size/\key.size<=64
 ·rw[if_pos h] at HM⊢
  obtain⟨m,hkm⟩:∃m,key.size=m:=⟨_,rfl⟩
  have hcv:=Lib.run_convert_string_bytes (P:=Tryz.prog) w 9 24 5 key Tryz.underlying9 Tryz.underlying24 Tryz.underlying5
  rw[hkm] at hcv
  have hlt:=hC.lt
  have hrk:=rds_bytes (S:=L.all++U) w 5 key hlt
  have hk1:=kp_bytes (Kp.refl [] w) 5 key
  obtain⟨w1,hw1⟩:∃w1,Lib.bytesWorld w 5 key=w1:=⟨_,rfl⟩
  rw[hw1] at hrk hk1 hcv
  obtain⟨cp,hcp⟩:∃c,grownCap w m 0 5=c:=⟨_,rfl⟩
  rw[hcp] at hcv
  have hbs:BSl (L.all++U) w1 (.slice (some ⟨w.heap.size,0,none⟩) m cp) (kb key):=⟨some ⟨w.heap.size,0,none⟩,cp,by rw[kb_len,hkm],hrk,by rw[kb_len,hkm,<-hcp];exact grownCap_ge w m 0 5,by rw[<-hcp];exact grownCap_le_maxLen w m 0 5 (by simp[maxLen];omega),by simp⟩
  have HG:=As.mk (gives_new hC ok hk1 (jGet key) (.slice none 0 0) (.slice (some ⟨w.heap.size,0,none⟩) m cp) (BSl.nil _ _) hbs hj)
  clear hC ok hj hlt hrk hk1 hw1 hcp hbs h hkm
  go_enter Tryz.func62,Tryz.ntmps62
  go_wp2_with (first
   |(go_at_call 27;refine HM.out.mono ?_;rintro e w2 ⟨rfl,rfl⟩;clear HM)
   |(go_at_call 28;refine HG.out.mono ?_;rintro e w3 ⟨rfl,HR⟩;have HR:=As.mk HR))
  go_ret2
  exact⟨rfl,HR.out⟩
 ·rw[if_neg h] at HM⊢
  have HC:=As.mk hC
  clear hC ok hj h
  go_enter Tryz.func62,Tryz.ntmps62
  go_wp2_with (go_at_call 27;refine HM.out.mono ?_;rintro e w2 ⟨rfl,rfl⟩;clear HM)
  go_ret2
  exact NewJ.no HC.out (Kp.refl _ _) 1
theorem delete_any(U:List Nat)(w:World)(L:Lay)(cf:Cfg)(s:Cs)(key:ByteArray)(hC:CoSt U w L cf s)(ok:CsOk cf s)(hj:nextJ s<=900000):
 Calls Tryz.prog 60 #[.pointer (some ⟨L.b,0,none⟩),.string key] w (if 1<=key.size/\key.size<=64 then NewJ U L cf (nextJ s) 0 (gives s (jDel key)) w else NewJ U L cf 0 1 s w):=by
 have HM:=As.mk (may_any L.b key.size key w rfl)
 by_cases h:1<=key.size/\key.size<=64
 ·rw[if_pos h] at HM⊢
  have HG:=As.mk (gives_new hC ok (Kp.refl [] w) (jDel key) (.slice none 0 0) (.slice none 0 0) (BSl.nil _ _) (BSl.nil _ _) hj)
  clear hC ok hj h
  go_enter Tryz.func60,Tryz.ntmps60
  go_wp2_with (first
   |(go_at_call 27;refine HM.out.mono ?_;rintro e w2 ⟨rfl,rfl⟩;clear HM)
   |(go_at_call 28;refine HG.out.mono ?_;rintro e w3 ⟨rfl,HR⟩;have HR:=As.mk HR))
  go_ret2
  exact⟨rfl,HR.out⟩
 ·rw[if_neg h] at HM⊢
  have HC:=As.mk hC
  clear hC ok hj h
  go_enter Tryz.func60,Tryz.ntmps60
  go_wp2_with (go_at_call 27;refine HM.out.mono ?_;rintro e w2 ⟨rfl,rfl⟩;clear HM)
  go_ret2
  exact NewJ.no HC.out (Kp.refl _ _) 1
def putR(s:Cs)(key:ByteArray)(xs:List Int):Int×Int×Cs:=
 if 1<=key.size/\key.size<=64 then(if xs.length<=4096 then((nextJ s:Int),0,gives s (jPut key xs)) else(0,5,s)) else(0,1,s)
theorem put_any(U:List Nat)(w:World)(L:Lay)(cf:Cfg)(s:Cs)(key:ByteArray)(A:Option Addr)(n c:Nat)(xs:List Int)(hC:CoSt U w L cf s)(ok:CsOk cf s)(hj:nextJ s<=900000)(hn:xs.length=n)(hr:Rd w A (iv .u8 xs))(hnil:A=none->c=0)(h9:n<=1000000):
 Calls Tryz.prog 9 #[.pointer (some ⟨L.b,0,none⟩),.string key,.slice A n c] w (NewJ U L cf (putR s key xs).1 (putR s key xs).2.1 (putR s key xs).2.2 w):=by
 have HM:=As.mk (may_any L.b key.size key w rfl)
 have HC:=As.mk hC
 by_cases h:1<=key.size/\key.size<=64
 ·rw[if_pos h] at HM
  by_cases h2:n<=4096
  ·have e:putR s key xs=((nextJ s:Int),0,gives s (jPut key xs)):=by rw[putR,if_pos h,if_pos (by omega)]
   rw[e]
   have i1:¬(4096:Int)<(n:Int):=by omega
   have HCL:As (Calls Tryz.prog 29 #[.slice A n c] w fun e w1=>∃A2 c2,e= .returned (.slice A2 n c2)/\As (Calls Tryz.prog 28 #[.pointer (some ⟨L.b,0,none⟩),.pointer (some ⟨w1.heap.size,0,none⟩)] (w1.alloc (jobObj (jPut key xs) (.slice A2 n c2) (.slice none 0 0))) (NewJ U L cf (nextJ s) 0 (gives s (jPut key xs)) w))):=⟨by
    refine(cloneb_any A n c xs w hn hr hnil (by omega)).mono ?_
    rintro e w1 ⟨v,rfl,ho,hk⟩
    obtain⟨A2,c2,rfl,_⟩:=own_rd ho.1
    rw[hn] at ho⊢
    have hlt:=hC.lt
    exact⟨A2,c2,rfl,⟨gives_new hC ok hk (jPut key xs) _ _ (BSl.own ho (fun x hx=> .inl (hlt x hx))) (BSl.nil _ _) hj⟩⟩⟩
   clear hC ok hj hn hr hnil h9 h e
   go_enter Tryz.func9,Tryz.ntmps9
   go_wp2_with (first
    |(go_at_call 27;refine HM.out.mono ?_;rintro e w2 ⟨rfl,rfl⟩;clear HM)
    |(go_at_call 29;refine HCL.out.mono ?_;rintro e w1 ⟨A2,c2,rfl,HG⟩)
    |(go_at_call 28;refine HG.out.mono ?_;rintro e w3 ⟨rfl,HR⟩;have HR:=As.mk HR))
   go_ret2
   exact⟨rfl,HR.out⟩
  ·have e:putR s key xs=(0,5,s):=by rw[putR,if_pos h,if_neg (by omega)]
   rw[e]
   have i1:(4096:Int)<(n:Int):=by omega
   clear hC ok hj hn hr hnil h9 h e
   go_enter Tryz.func9,Tryz.ntmps9
   go_wp2_with (go_at_call 27;refine HM.out.mono ?_;rintro e w2 ⟨rfl,rfl⟩;clear HM)
   go_ret2
   exact NewJ.no HC.out (Kp.refl _ _) 5
 ·rw[if_neg h] at HM
  have e:putR s key xs=(0,1,s):=by rw[putR,if_neg h]
  rw[e]
  clear hC ok hj hn hr hnil h9 h e
  go_enter Tryz.func9,Tryz.ntmps9
  go_wp2_with (go_at_call 27;refine HM.out.mono ?_;rintro e w2 ⟨rfl,rfl⟩;clear HM)
  go_ret2
  exact NewJ.no HC.out (Kp.refl _ _) 1
theorem left_any(U:List Nat)(w:World)(L:Lay)(cf:Cfg)(s:Cs)(hC:CoSt U w L cf s):Calls Tryz.prog 10 #[.pointer (some ⟨L.b,0,none⟩)] w fun e w'=>e= .returned (.int .i64 (s.jobs.length:Int))/\w'=w:=by
 obtain⟨κ,VS,VW,VJ,VD,MV,AV,l,h⟩:=hC
 obtain⟨A,c,hv⟩:=h.jq.form2
 obtain⟨n,hn⟩:∃n,L.js.length=n:=⟨_,rfl⟩
 rw[hn] at hv
 subst hv
 have b5:w.cell? ⟨L.b,5,none⟩=some (.slice A n c):=bkc h.hd 5 rfl
 have HL:As (s.jobs.length=n):=⟨by rw[<-h.jl,hn]⟩
 clear h hn
 go_enter Tryz.func10,Tryz.ntmps10
 go_wp2
 go_ret
 exact⟨by rw[HL.out];rfl,rfl⟩
def DoneI(U:List Nat)(L:Lay)(cf:Cfg)(s:Cs)(w:World)(e:Ending)(w':World):Prop:=
 ∃v L',e= .returned v/\CoSt U w' L' cf {s with done:=[]}/\Grew w L L'/\DoneAt (L'.all++U) w' v v.ownBlock s.done/\(∀g,v.ownBlock=some g->g∉L'.all++U)/\Kp L.all w w'
theorem done_any(U:List Nat)(w:World)(L:Lay)(cf:Cfg)(s:Cs)(hC:CoSt U w L cf s):Calls Tryz.prog 18 #[.pointer (some ⟨L.b,0,none⟩)] w (DoneI U L cf s w):=by
 obtain⟨κ,VS,VW,VJ,VD,MV,AV,l,h⟩:=hC
 have b8:w.cell? ⟨L.b,8,none⟩=some VD:=bkc h.hd 8 rfl
 have f8:=blk_free h.hd 8
 have H:=As.mk h
 obtain⟨vs,ho,hg,hr⟩:=h.dn
 obtain⟨A,c,rfl,_⟩:=own_rd ho
 have HD:=As.mk h.dn
 clear h ho hg hr
 go_enter Tryz.func18,Tryz.ntmps18
 go_wp2
 go_ret
 have h:=H.out
 obtain⟨vs,ho,hg,hr⟩:=HD.out
 let L':Lay:={L with gd:=none}
 have k:Kp [L.b] w (w.setCell ⟨L.b,8,none⟩ (.slice none 0 0)):=(Kp.refl _ w).setCell (.inl (by simp)) _
 have hall:∀x∈L'.all,x∈L.all:=by
  intro x hx
  rcases Lay.mem.1 hx with e|e|e|e|e|e|e|e
  ·exact Lay.mem.2 (by simp[show x=L.b from e])
  ·exact Lay.mem.2 (by simp[show x=L.gw from e])
  ·exact Lay.mem.2 (by simp[show L.gj=some x from e])
  ·cases e
  ·exact Lay.mem.2 (by simp[show L.ga=some x from e])
  ·exact Lay.mem.2 (by simp[show L.gm=some x from e])
  ·exact Lay.mem.2 (by simp[show x∈L.js from e])
  ·exact Lay.mem.2 (by simp[show x∈L.az from e])
 have hbm:L.b∈L.all:=Lay.mem.2 (.inl rfl)
 have hV':∀x∈[L.b],x∈L.all++U\/w.heap.size<=x:=fun x hx=>by
  simp only[List.mem_singleton] at hx
  subst hx
  exact .inl (List.mem_append.2 (.inl hbm))
 have hS':∀x∈L'.all++U,x∈L.all++U\/w.heap.size<=x:=fun x hx=> .inl (by
  rcases List.mem_append.1 hx with e|e
  ·exact List.mem_append.2 (.inl (hall x e))
  ·exact List.mem_append.2 (.inr e))
 have ne:∀x c,κ x=c->c≠1->x∉[L.b]:=fun x c hx hc hm=>by
  simp only[List.mem_singleton] at hm
  subst hm
  have:=h.sep.b
  omega
 refine⟨_,L',rfl,⟨κ,VS,VW,VJ,.slice none 0 0,MV,AV,l,⟨⟨by simpa using h.sep.b,by simpa using h.sep.gw,by simpa using h.sep.gj,fun x e=>(by cases e),by simpa using h.sep.ga,by simpa using h.sep.gm,by simpa using h.sep.js,by simpa using h.sep.az,h.sep.jn,h.sep.an,by simpa using h.sep.U⟩,
  heap_setCell_same w L.b 8 _ _ (.slice none 0 0) h.hd,h.sh.kp k hV' hS',⟨k.own h.wh.1 (fun x e=> ?_),h.wh.2⟩,h.jq.kp k (fun x e=>ne _ _ (h.sep.gj x e).1 (by decide)),⟨[],World.ownsRow_nil _ 0 _ 6,rfl,rfl⟩,h.jl,
  fun i j p h1 h2=>(h.ja i j p h1 h2).kp k (ne _ _ (h.sep.js p (List.mem_of_getElem? h2)).1 (by decide)) hV' hS',h.al,fun i a p h1 h2=>(h.aa i a p h1 h2).kp k (ne _ _ (h.sep.az p (List.mem_of_getElem? h2)).1 (by decide)) hV' hS',
  ⟨k.own h.aq.1 (fun x e=>ne _ _ (h.sep.ga x (by rw[<-h.aq.2];exact e)).1 (by decide)),h.aq.2⟩,⟨k.own h.mq.1 (fun x e=>ne _ _ (h.sep.gm x (by rw[<-h.mq.2.1];exact e)).1 (by decide)),h.mq.2⟩,h.no⟩⟩,⟨rfl,fun x hx=> .inl (hall x hx)⟩,
  ⟨vs,k.own ho (fun x e=>ne _ _ (h.sep.gd x (by rw[<-hg];exact e)).1 (by decide)),rfl,hr.kp k hV' hS'⟩,fun g e hm=> ?_,k.mono (fun x hx=> .inl (by simp at hx;subst hx;exact hbm))⟩
 ·rw[h.wh.2] at e
  cases e
  exact ne _ _ h.sep.gw.1 (by decide)
 ·have h4:=h.sep.gd g (by rw[<-hg];exact e)
  rcases List.mem_append.1 hm with e2|e2
  ·rcases Lay.mem.1 e2 with e|e|e|e|e|e|e|e
   ·have:=h.sep.b;rw[show g=L.b from e] at h4;omega
   ·have:=h.sep.gw;rw[show g=L.gw from e] at h4;omega
   ·have:=h.sep.gj g e;omega
   ·cases e
   ·have:=h.sep.ga g e;omega
   ·have:=h.sep.gm g e;omega
   ·have:=h.sep.js g e;omega
   ·have:=h.sep.az g e;omega
  ·have:=h.sep.U g e2;omega
end Go.Proofs.YtdiljpdohmeceaaGreat.co
namespace Go.Proofs.YtdiljpdohmeceaaGreat.co.cr
open Go.RowKit H O opk frame wir
def RjOk(S:List Nat)(w:World):List Job->List Value->Prop
 |[],vs=>vs=[]
 |j::l,vs=>∃tv b,vs=[.int .i64 (j.kind:Int),.string j.key,tv]++b/\BSl S w tv j.text/\RjOk S w l b
theorem RjOk.kp{S S2 V:List Nat}{w w1:World}(k:Kp V w w1)(hV:∀x∈V,x∈S\/w.heap.size<=x)(hS:∀x∈S2,x∈S\/w.heap.size<=x):∀{l:List Job} {vs:List Value},RjOk S w l vs->RjOk S2 w1 l vs
 |[],_,h=>h
 |_::_,_,⟨a,b,h1,h2,h3⟩=>⟨a,b,h1,h2.kp k hV hS,RjOk.kp k hV hS h3⟩
theorem RjOk.snoc{S:List Nat}{w:World}{j:Job}{tv:Value}(hr:BSl S w tv j.text):∀{l:List Job} {vs:List Value},RjOk S w l vs->RjOk S w (l++[j]) (vs++[.int .i64 (j.kind:Int),.string j.key,tv])
 |[],vs,h=>by
  obtain rfl:vs=[]:=h
  exact⟨tv,[],by simp,hr,rfl⟩
 |_::_,_,⟨p,q,h1,h2,h3⟩=>by
  subst h1
  exact⟨p,q++_,by simp,h2,RjOk.snoc hr h3⟩
theorem RjOk.get{S:List Nat}{w:World}:∀{l:List Job} {vs:List Value} {i:Nat} {j:Job},RjOk S w l vs->l[i]?=some j->∃tv,vs[i*3]?=some (.int .i64 (j.kind:Int))/\vs[i*3+1]?=some (.string j.key)/\vs[i*3+2]?=some tv/\BSl S w tv j.text
 |[],_,_,_,_,h=>by simp at h
 |x::l,vs,0,m,⟨dv,b,h1,h2,_⟩,h=>by
  cases h
  subst h1
  exact⟨dv,rfl,rfl,rfl,h2⟩
 |x::l,vs,i+1,m,⟨dv,b,h1,_,h3⟩,h=>by
  subst h1
  obtain⟨d,g1,g2,g3,g4⟩:=RjOk.get h3 (i:=i) (j:=m) (by simpa using h)
  refine⟨d, ?_, ?_, ?_,g4⟩
  ·rw[show(i+1)*3=i*3+3 by omega];exact g1
  ·rw[show(i+1)*3+1=i*3+1+3 by omega];exact g2
  ·rw[show(i+1)*3+2=i*3+2+3 by omega];exact g3
def askV(a:Ask)(fv mv':Value):List Value:=[.int .i64 (a.shard:Int),.int .i64 (a.ctx:Int),fv,.int .i64 (a.tried:Int),.int .i64 (a.waited:Int),.bool a.hinted,.bool a.answered,.bool false,.bool false,.slice none 0 0,mv']
def RaOk(S:List Nat)(w:World):List Ask->List Value->Prop
 |[],vs=>vs=[]
 |a::l,vs=>∃fv mv' b,vs=askV a fv mv'++b/\BSl S w fv a.frame/\MSl S w mv' a.ms/\RaOk S w l b
theorem RaOk.kp{S S2 V:List Nat}{w w1:World}(k:Kp V w w1)(hV:∀x∈V,x∈S\/w.heap.size<=x)(hS:∀x∈S2,x∈S\/w.heap.size<=x):∀{l:List Ask} {vs:List Value},RaOk S w l vs->RaOk S2 w1 l vs
 |[],_,h=>h
 |_::_,_,⟨a,m,b,h1,h2,h3,h4⟩=>⟨a,m,b,h1,h2.kp k hV hS,h3.kp k hV hS,RaOk.kp k hV hS h4⟩
def RDone(S:List Nat)(w:World)(v:Value)(g:Option Nat)(l:List Res):Prop:=
 ∃vs,w.ownsRow 0 138 6 v l.length vs/\v.ownBlock=g/\RsOk S w l vs
theorem RDone.kp{S S2 V:List Nat}{w w1:World}{v:Value}{g:Option Nat}{l:List Res}(h:RDone S w v g l)(k:Kp V w w1)(hg:∀x,g=some x->x∉V)(hV:∀x∈V,x∈S\/w.heap.size<=x)(hS:∀x∈S2,x∈S\/w.heap.size<=x):RDone S2 w1 v g l:=by
 obtain⟨vs,h1,rfl,h3⟩:=h
 exact⟨vs,k.own h1 hg,rfl,h3.kp k hV hS⟩
structure RLay where
 b:Nat
 gw:Nat
 gL:Option Nat
 ga:Option Nat
 gd:Option Nat
def RLay.all(L:RLay):List Nat:=L.b::L.gw::(L.gL.toList++L.ga.toList++L.gd.toList)
theorem RLay.mem{L:RLay}{x:Nat}:x∈L.all↔x=L.b\/x=L.gw\/L.gL=some x\/L.ga=some x\/L.gd=some x:=by
 simp[RLay.all]
structure RSep(U:List Nat)(L:RLay)(κ:Nat->Nat)(n:Nat):Prop where
 b:κ L.b=1/\L.b<n
 gw:κ L.gw=2/\L.gw<n
 gL:∀x,L.gL=some x->κ x=3/\x<n
 ga:∀x,L.ga=some x->κ x=4/\x<n
 gd:∀x,L.gd=some x->κ x=5/\x<n
 U:∀x∈U,κ x=0/\x<n
theorem RSep.pos{U:List Nat}{L:RLay}{κ:Nat->Nat}{n x:Nat}(h:RSep U L κ n)(hx:x∈L.all):1<=κ x/\x<n:=by
 rcases RLay.mem.1 hx with rfl|rfl|e|e|e
 ·have:=h.b;omega
 ·have:=h.gw;omega
 ·have:=h.gL x e;omega
 ·have:=h.ga x e;omega
 ·have:=h.gd x e;omega
theorem RSep.foreign{U U2:List Nat}{L:RLay}{κ:Nat->Nat}{n m:Nat}(h:RSep U L κ n)(hm:n<=m)(hU:∀x∈U2,x∈U\/n<=x/\x<m):RSep U2 L (fun x=>if x<n then κ x else 0) m:=by
 have lo:∀x c,κ x=c/\x<n->(if x<n then κ x else 0)=c/\x<m:=fun x c hx=>by rw[if_pos hx.2];exact⟨hx.1,by omega⟩
 refine⟨lo _ _ h.b,lo _ _ h.gw,fun x e=>lo _ _ (h.gL x e),fun x e=>lo _ _ (h.ga x e),fun x e=>lo _ _ (h.gd x e),fun x hx=> ?_⟩
 show(if x<n then κ x else 0)=0/\x<m
 rcases hU x hx with e|e
 ·have:=h.U x e
  rw[if_pos this.2]
  exact⟨this.1,by omega⟩
 ·rw[if_neg (by omega)]
  exact⟨rfl,e.2⟩
def whomN(cf:Cfg)(whom:List Nat):List Int:=(List.range cf.shards.length).map fun i=>dest cf whom i
theorem whomN_len(cf:Cfg)(whom:List Nat):(whomN cf whom).length=cf.shards.length:=by simp[whomN]
structure RsP(U:List Nat)(w:World)(L:RLay)(cf:Cfg)(s:Cs)(κ:Nat->Nat)(VS VW VL VA VD:Value):Prop where
 sep:RSep U L κ w.heap.size
 hd:w.heap[L.b]?=some (.cells #[.int .i64 (cf.id:Int),.int .i64 (cf.pat:Int),.int .i64 (cf.tries:Int),VS,VW,VL,.int .i64 (s.ended:Int),VA,.int .i64 (s.ctx:Int),VD] 136 (0,0))
 sh:Shd (L.all++U) w VS cf.shards
 wh:w.ownsRow 0 3 1 VW cf.shards.length (iv .i64 (whomN cf s.whom))/\VW.ownBlock=some L.gw
 jq:∃past vs,past.length=s.ended/\w.ownsRow 0 168 3 VL (s.ended+s.jobs.length) vs/\RjOk (L.all++U) w (past++s.jobs) vs/\VL.ownBlock=L.gL
 aq:∃vs,w.ownsRow 0 171 11 VA s.asks.length vs/\RaOk (L.all++U) w s.asks vs/\VA.ownBlock=L.ga
 dn:RDone (L.all++U) w VD L.gd s.done
def RsSt(U:List Nat)(w:World)(L:RLay)(cf:Cfg)(s:Cs):Prop:=∃κ VS VW VL VA VD,RsP U w L cf s κ VS VW VL VA VD
theorem RsP.kp{U U2 V:List Nat}{w w1:World}{L:RLay}{cf:Cfg}{s:Cs}{κ:Nat->Nat}{VS VW VL VA VD:Value}(h:RsP U w L cf s κ VS VW VL VA VD)(k:Kp V w w1)
 (hV:∀x∈V,x∈U\/w.heap.size<=x) (hU:∀x∈U2,x∈U\/w.heap.size<=x/\x<w1.heap.size):RsP U2 w1 L cf s (fun x=>if x<w.heap.size then κ x else 0) VS VW VL VA VD:=by
 have nV:∀x,x∈L.all->x∉V:=by
  intro x hx hm
  have h1:=h.sep.pos hx
  rcases hV x hm with e|e
  ·have:=(h.sep.U x e).1;omega
  ·omega
 have hV':∀x∈V,x∈L.all++U\/w.heap.size<=x:=fun x hx=>(hV x hx).imp (fun e=>List.mem_append.2 (.inr e)) id
 have hS':∀x∈L.all++U2,x∈L.all++U\/w.heap.size<=x:=by
  intro x hx
  rcases List.mem_append.1 hx with e|e
  ·exact .inl (List.mem_append.2 (.inl e))
  ·exact(hU x e).imp (fun e=>List.mem_append.2 (.inr e)) (fun e=>e.1)
 have mem:=fun x=>(RLay.mem (L:=L) (x:=x)).2
 obtain⟨past,vs,j1,j2,j3,j4⟩:=h.jq
 obtain⟨us,a1,a2,a3⟩:=h.aq
 exact⟨h.sep.foreign k.size hU,k.blk h.hd (nV _ (mem _ (.inl rfl))),h.sh.kp k hV' hS',⟨k.own h.wh.1 (fun x e=>nV x (mem x (.inr (.inl (by rw[h.wh.2] at e;exact(Option.some.inj e).symm))))),h.wh.2⟩,
  ⟨past,vs,j1,k.own j2 (fun x e=>nV x (mem x (by rw[j4] at e;simp[e]))),j3.kp k hV' hS',j4⟩,⟨us,k.own a1 (fun x e=>nV x (mem x (by rw[a3] at e;simp[e]))),a2.kp k hV' hS',a3⟩,
  h.dn.kp k (fun x e=>nV x (mem x (by simp[e]))) hV' hS'⟩
theorem RsSt.kp{U U2 V:List Nat}{w w1:World}{L:RLay}{cf:Cfg}{s:Cs}(h:RsSt U w L cf s)(k:Kp V w w1)(hV:∀x∈V,x∈U\/w.heap.size<=x)(hU:∀x∈U2,x∈U\/w.heap.size<=x/\x<w1.heap.size):RsSt U2 w1 L cf s:=by
 obtain⟨κ,VS,VW,VL,VA,VD,h⟩:=h
 exact⟨_,_,_,_,_,_,h.kp k hV hU⟩
theorem RsSt.lt{U:List Nat}{w:World}{L:RLay}{cf:Cfg}{s:Cs}(h:RsSt U w L cf s):∀x∈L.all++U,x<w.heap.size:=by
 obtain⟨κ,VS,VW,VL,VA,VD,h⟩:=h
 intro x hx
 rcases List.mem_append.1 hx with e|e
 ·exact(h.sep.pos e).2
 ·exact(h.sep.U x e).2
def RGrew(w:World)(L L':RLay):Prop:=L'.b=L.b/\∀x∈L'.all,x∈L.all\/w.heap.size<=x
theorem RGrew.refl(w:World)(L:RLay):RGrew w L L:=⟨rfl,fun _ h=> .inl h⟩
theorem hash_any(key:ByteArray)(w:World)(hz:key.size<=140737488351232):Calls Tryz.prog 70 #[.string key] w fun e w'=>e= .returned (.int .u64 (hashL (kb key)))/\w'=w:=by
 obtain⟨m,hkm⟩:∃m,key.size=m:=⟨_,rfl⟩
 have HM:=As.mk (show(kb key).length=m by rw[kb_len,hkm])
 rw[hkm] at hz
 have HKM:=As.mk hkm
 go_enter Tryz.func70,Tryz.ntmps70
 go_wp2
 go_loop [3,4] (fun h i=>∃k:Nat,i= .int .i64 (k:Int)/\k<=m/\h= .int .u64 (hashL ((kb key).take k))) (fun _ i=>m-(intOf i).toNat)
 case atStart=>exact⟨0,rfl,by omega,rfl⟩
 case round=>
  obtain⟨k,rfl,hk,rfl⟩:=hrel
  by_cases hlt:k<m
  ·have hlt':k<(kb key).length:=by rw[HM.out];exact hlt
   have i0:(0:Int)<=(k:Int):=by omega
   have i1:(k:Int)<(m:Int):=by omega
   go_wp2
   go_round
   case rel=>
    refine⟨k+1,by go_num,by omega, ?_⟩
    have hb:(kb key)[k]=((key[k]'(by rw[HKM.out];exact hlt)).toNat:Int):=by simp[kb];rfl
    have hlt2:((key[k]'(by rw[HKM.out];exact hlt)).toNat:Int)<256:=by have:=(key[k]'(by rw[HKM.out];exact hlt)).toNat_lt;omega
    rw[hashL_step _ k hlt',hb,hashStep]
    generalize (key[k]'(by rw[HKM.out];exact hlt)).toNat=c at hlt2⊢
    rw[show IntKind.u64.wrap (c:Int)=(c:Int) by rw[IntKind.wrap_u64];omega]
   case measure=>simp[intOf];omega
  ·go_wp2
   go_ret
   have e:(kb key).take k=kb key:=List.take_of_length_le (by rw[HM.out];omega)
   exact⟨by rw[e];rfl,rfl⟩
theorem shard_any(key:ByteArray)(n:Nat)(w:World)(hz:key.size<=140737488351232)(h1:1<=n)(h8:n<=8):Calls Tryz.prog 23 #[.string key,.int .i64 (n:Int)] w fun e w'=>e= .returned (.tuple #[.int .i64 (shardOf (kb key) n:Int),.int .i64 0])/\w'=w:=by
 have hp:=hashL_pos (kb key)
 obtain⟨H,hH⟩:∃H,hashL (kb key)=H:=⟨_,rfl⟩
 have HH:As (∀wX,Calls Tryz.prog 70 #[.string key] wX fun e w'=>e= .returned (.int .u64 H)/\w'=wX):=⟨fun wX=>by rw[<-hH];exact hash_any key wX hz⟩
 have HS:As (shardOf (kb key) n=(H%(n:Int)).toNat):=⟨by rw[shardOf,hH]⟩
 rw[hH] at hp
 obtain⟨p0,p1⟩:=hp
 have n0:(0:Int)<(n:Int):=by omega
 have n1:¬(n:Int)<1:=by omega
 have n2:¬(8:Int)<(n:Int):=by omega
 clear hz hH
 go_enter Tryz.func23,Tryz.ntmps23
 go_wp2_with (go_at_call 70;refine(HH.out _).mono ?_;rintro e w2 ⟨rfl,rfl⟩;clear HH)
 go_ret2
 refine⟨?_,rfl⟩
 have q0:=Int.emod_nonneg H (show(n:Int)≠0 by omega)
 have q1:=Int.emod_lt_of_pos H n0
 have e:wrap64 (H%(n:Int))=(((H%(n:Int)).toNat:Nat):Int):=by
  generalize H%(n:Int)=q at q0 q1⊢
  rw[wrap64]
  omega
 rw[HS.out,<-e]
 rfl
theorem key_any(key:ByteArray)(w:World):Calls Tryz.prog 79 #[.string key] w fun e w'=>e= .returned (.bool (decide (1<=key.size/\key.size<=64)))/\w'=w:=by
 obtain⟨n,hn⟩:∃n,key.size=n:=⟨_,rfl⟩
 by_cases h1:1<=n
 ·have h1':(1:Int)<=(n:Int):=by omega
  by_cases h2:n<=64
  ·have h2':(n:Int)<=64:=by omega
   go_enter Tryz.func79,Tryz.ntmps79
   go_wp2
   go_ret
   exact⟨by rw[decide_eq_true (by omega)];rfl,rfl⟩
  ·have h2':¬(n:Int)<=64:=by omega
   go_enter Tryz.func79,Tryz.ntmps79
   go_wp2
   go_ret
   exact⟨rfl,rfl⟩
 ·have h1':¬(1:Int)<=(n:Int):=by omega
  go_enter Tryz.func79,Tryz.ntmps79
  go_wp2
  go_ret
  exact⟨rfl,rfl⟩
theorem left_any(U:List Nat)(w:World)(L:RLay)(cf:Cfg)(s:Cs)(hC:RsSt U w L cf s)(hb:s.ended+s.jobs.length<=1000000):Calls Tryz.prog 69 #[.pointer (some ⟨L.b,0,none⟩)] w fun e w'=>e= .returned (.int .i64 (s.jobs.length:Int))/\∃q,w'=w.drewN q:=by
 obtain⟨κ,VS,VW,VL,VA,VD,h⟩:=hC
 obtain⟨past,vs,h1,h2,h3,h4⟩:=h.jq
 obtain⟨A,c,rfl,_⟩:=own_rd h2
 obtain⟨n,hn⟩:∃n,s.jobs.length=n:=⟨_,rfl⟩
 obtain⟨m,hm⟩:∃n,s.ended=n:=⟨_,rfl⟩
 have hd:=h.hd
 rw[hn,hm] at hd hb
 obtain⟨t,ht⟩:∃t,m+n=t:=⟨_,rfl⟩
 rw[ht] at hd
 have b5:w.cell? ⟨L.b,5,none⟩=some (.slice A t c):=bkc hd 5 rfl
 have b6:w.cell? ⟨L.b,6,none⟩=some (.int .i64 (m:Int)):=bkc hd 6 rfl
 have HN:=As.mk hn
 have i0:(t:Int)-(m:Int)=(n:Int):=by omega
 have i1:IntKind.i64.wrap ((t:Int)-(m:Int))=(n:Int):=by rw[IntKind.wrap_i64];omega
 clear h h1 h2 h3 h4 hd ht hn hm i0
 go_enter Tryz.func69,Tryz.ntmps69
 go_wp2_with fail
 go_quiet (fail)
 go_wp2_with fail
 go_ret
 exact⟨by rw[HN.out];rfl,_,rfl⟩
theorem group_good(A:Option Addr)(n c:Nat)(xs:List Int)(w:World)(hn:xs.length=n)(hr:Rd w A (iv .i64 xs))(hg:Grp xs):Calls Tryz.prog 73 #[.slice A n c] w fun e w'=>e= .returned (.bool true)/\Kp [] w w':=by
 obtain⟨⟨h1,h7⟩,hG⟩:=hg
 rw[hn] at h1 h7
 have HR:=As.mk hr
 have HN:=As.mk hn
 have HG:=As.mk hG
 clear hr hn hG
 go_enter Tryz.func73,Tryz.ntmps73
 go_wp2
 go_loopw [3] (fun i wr=>∃k:Nat,i= .int .i64 (k:Int)/\k<=n/\As (Kp [] w wr)) (fun i _=>n-(intOf i).toNat)
 case atStart=>exact⟨0,rfl,by omega,⟨Kp.refl _ _⟩⟩
 case round=>
  obtain⟨k,rfl,hk,HK⟩:=hrel
  by_cases hlt:k<n
  ·have hk':k<xs.length:=by rw[HN.out];exact hlt
   obtain⟨⟨g0,g1⟩,g2⟩:=HG.out k hk'
   obtain⟨b,o,rfl,d0⟩:=int_at ((HK.out.rd_new HR.out (by simp))) k hk'
   obtain⟨y,hy⟩:∃y,xs[k]=y:=⟨_,rfl⟩
   rw[hy] at g0 g1 d0
   have i0:(0:Int)<=(k:Int):=by omega
   have i1:(k:Int)<(n:Int):=by omega
   have hd:decide (y<0)=false:=by simpa using g0
   have hd2:decide (7<=y)=false:=by simpa using g1
   by_cases hk0:k=0
   ·subst hk0
    rw[Nat.add_zero] at d0
    have g9:¬0<(0:Nat):=by omega
    clear g2 hy
    go_wp2
    go_quiet (fail)
    go_wp2
    go_roundw
    case rel=>exact⟨1,by go_num,by omega,⟨HK.out.drewN _⟩⟩
    case measure=>simp[intOf];omega
   ·obtain⟨j,rfl⟩:∃j,k=j+1:=⟨k-1,by omega⟩
    have g3:=g2 (by omega)
    obtain⟨_,_,e,d1⟩:=int_at ((HK.out.rd_new HR.out (by simp))) j (by omega)
    cases e
    obtain⟨z,hz⟩:∃z,xs[j]=z:=⟨_,rfl⟩
    rw[hy] at g3
    have g4:z<y:=by rw[<-hz];exact g3
    rw[hz] at d1
    have i5:¬y<=z:=by omega
    clear g2 g3 hy hz
    go_wp2
    go_quiet (fail)
    go_wp2
    go_roundw
    case rel=>exact⟨j+1+1,by go_num,by omega,⟨HK.out.drewN _⟩⟩
    case measure=>simp[intOf];omega
  ·have i6:(n:Int)<=7:=by omega
   go_wp2
   go_ret
   exact⟨rfl,HK.out⟩
def firsts(l:List (List Int))(k:Nat):List Int:=(List.range k).map fun i=>(l.getD i []).getD 0 0
theorem firsts_succ(l:List (List Int))(k:Nat):firsts l (k+1)=firsts l k++[(l.getD k []).getD 0 0]:=by simp[firsts,List.range_succ]
theorem whomN_new(cf:Cfg):whomN cf (newCs cf.shards.length).whom=firsts cf.shards cf.shards.length:=by
 unfold whomN firsts dest newCs
 apply List.map_congr_left
 intro i hi
 have:i<cf.shards.length:=List.mem_range.1 hi
 simp[List.getD,this]
structure NewR(w:World)(id pat tr:Nat)(b k m:Nat)(l:List (List Int))(wr:World)(VS VW:Value):Prop where
 blk:wr.heap[b]?=some (.cells #[.int .i64 (id:Int),.int .i64 (pat:Int),.int .i64 (tr:Int),VS,VW,.slice none 0 0,.int .i64 0,.slice none 0 0,.int .i64 0,.slice none 0 0] 136 (0,0))
 sh:OwnL (b::VW.ownBlock.toList) wr w.heap.size VS (l.take k)
 gv:∀g,VS.ownBlock=some g->g≠b/\VW.ownBlock≠some g
 wh:wr.ownsRow 0 3 1 VW m (iv .i64 (firsts l m))
 gw:∀g,VW.ownBlock=some g->g≠b/\w.heap.size<=g
 kp:Kp [] w wr
 lo:w.heap.size<=b
theorem NewR.drewN{w wr:World}{id pat tr b k m:Nat}{l:List (List Int)}{VS VW:Value}(h:NewR w id pat tr b k m l wr VS VW){w2:World}(k2:Kp [] wr w2):NewR w id pat tr b k m l w2 VS VW:=
 ⟨k2.blk h.blk (by simp),h.sh.kp k2 (by simp) (by simp) (fun x hx=> .inl hx),h.gv,k2.own h.wh (by simp),h.gw,h.kp.trans k2 (by simp),h.lo⟩
theorem NewR.row{w wr w2 w3:World}{id pat tr b k j m:Nat}{l:List (List Int)}{VS VW:Value}(h:NewR w id pat tr b k j l wr VS VW){x:List Int}{us:List Value}{A2:Option Addr}{c2:Nat}{v3:Value}(hk:k<l.length)(hx:x=l[k])
 (hu:∀wX,Kp [] wr wX->wX.ownsRow 0 53 1 VS k us) (k2:Kp [] wr w2) (o2:Own 3 .i64 w2 wr.heap.size (.slice A2 m c2) x) (o3:w3.ownsRow 0 53 1 v3 (k+1) (us++[.slice A2 m c2]))
 (k3:Kp VS.ownBlock.toList (w2.alloc (.cells #[.slice A2 m c2] 53)) w3) (a3:At (w2.heap.size+1) VS.ownBlock v3.ownBlock):
 w3.cell? ⟨b,3,none⟩=some VS/\w3.frozen? ⟨b,3,none⟩=false/\NewR w id pat tr b (k+1) j l (w3.setCell ⟨b,3,none⟩ v3) v3 VW:=by
 have hov:=h.gv
 have hsz:=h.kp.size
 have hs2:=k2.size
 have hbl:=lt_of_block h.blk
 have hvb:b∉VS.ownBlock.toList:=by
  intro e
  exact(hov _ (by simpa using e)).1 rfl
 have hb3:=k3.blk (blk_alloc (k2.blk h.blk (by simp)) _) hvb
 have hu2:Own 3 .i64 w2 w.heap.size (.slice A2 m c2) x:=o2.lower hsz
 have hlk:(l.take k).length=k:=by rw[List.length_take];omega
 have hwl:∀g,VW.ownBlock=some g->g<wr.heap.size:=fun g e=>own_lt h.wh g e
 have hvl:∀g,VS.ownBlock=some g->w.heap.size<=g/\g<wr.heap.size:=by
  obtain⟨us',ho,hlo,_⟩:=h.sh
  exact fun g e=>⟨hlo g e,own_lt ho g e⟩
 have hsnoc:OwnL (b::VW.ownBlock.toList) w3 w.heap.size v3 (l.take k++[x]):=by
  have kA:Kp [] wr (w2.alloc (.cells #[.slice A2 m c2] 53)):=k2.alloc _
  have hL:OwnL (b::VW.ownBlock.toList) (w2.alloc (.cells #[.slice A2 m c2] 53)) w.heap.size VS (l.take k):=h.sh.kp kA (by simp) (by simp) (fun x hx=> .inl hx)
  have kB:Kp [] w2 (w2.alloc (.cells #[.slice A2 m c2] 53)):=(Kp.refl [] w2).alloc _
  refine OwnL.snoc hlk hL (hu _ kA) (hu2.kp kB (by simp)) (fun y hy=>⟨fun hm=> ?_,fun e=> ?_⟩) o3 k3 (by simpa using a3) (by simp;omega)
  ·have h8:=o2.2 y hy
   rcases List.mem_cons.1 hm with e|e
   ·omega
   ·have:=hwl y (by simpa using e)
    omega
  ·have h8:=o2.2 y hy
   have h9:=hvl y e
   omega
 have htk:l.take (k+1)=l.take k++[x]:=by rw[hx];exact List.take_succ_eq_append_getElem hk
 have kS:Kp [b] w3 (w3.setCell ⟨b,3,none⟩ v3):=(Kp.refl _ w3).setCell (.inl (by simp)) _
 have hgv3:∀g,v3.ownBlock=some g->g≠b/\VW.ownBlock≠some g:=by
  intro g e
  rcases a3 with e2|⟨y,e2,hy⟩
  ·rw[e2] at e;exact hov g e
  ·rw[e2] at e
   cases e
   refine⟨by omega,fun e=> ?_⟩
   have:=hwl _ e
   omega
 have kAll:Kp [] w w3:=(h.kp.trans (k2.alloc _) (by simp)).trans k3 (fun y hy=> .inr (by
  have h8:VS.ownBlock=some y:=by simpa using hy
  exact(hvl y h8).1))
 have hlo2:=h.lo
 refine⟨bkc hb3 3 rfl,blk_free hb3 3,⟨heap_setCell_same w3 b 3 _ _ v3 hb3, ?_,hgv3, ?_,h.gw,kAll.trans kS (by intro y hy;simp at hy;omega),hlo2⟩⟩
 ·rw[htk]
  refine hsnoc.kp kS (fun y hy=> .inl (by simp at hy;simp[hy])) (fun g e hm=> ?_) (fun x hx=> .inl hx)
  simp at hm
  exact(hgv3 g e).1 hm
 ·refine kS.own (k3.own ((k2.alloc _).own h.wh (by simp)) (fun g e hm=> ?_)) (fun g e hm=> ?_)
  ·exact(hov g (by simpa using hm)).2 e
  ·simp at hm
   exact(h.gw g e).1 hm
theorem NewR.first{w wr w3:World}{id pat tr b k j:Nat}{l:List (List Int)}{VS VW:Value}(h:NewR w id pat tr b k j l wr VS VW){y:Int}{v3:Value}(hy:(l.getD j []).getD 0 0=y){t:TypeId}
 (o3:w3.ownsRow 0 3 1 v3 (j+1) (iv .i64 (firsts l j)++[.int .i64 y])) (k3:Kp VW.ownBlock.toList (wr.alloc (.cells #[.int .i64 y] t)) w3) (a3:At (wr.heap.size+1) VW.ownBlock v3.ownBlock):
 w3.cell? ⟨b,4,none⟩=some VW/\w3.frozen? ⟨b,4,none⟩=false/\NewR w id pat tr b k (j+1) l (w3.setCell ⟨b,4,none⟩ v3) VS v3:=by
 have hsz:=h.kp.size
 have hbl:=lt_of_block h.blk
 have hvb:b∉VW.ownBlock.toList:=by
  intro e
  exact(h.gw _ (by simpa using e)).1 rfl
 have hb3:=k3.blk (blk_alloc h.blk _) hvb
 have hwl:∀g,VW.ownBlock=some g->g<wr.heap.size:=fun g e=>own_lt h.wh g e
 have hvl:∀g,VS.ownBlock=some g->w.heap.size<=g/\g<wr.heap.size:=by
  obtain⟨us',ho,hlo,_⟩:=h.sh
  exact fun g e=>⟨hlo g e,own_lt ho g e⟩
 have kA:Kp VW.ownBlock.toList wr w3:=((Kp.refl VW.ownBlock.toList wr).alloc _).trans k3 (fun x hx=> .inl hx)
 have kS:Kp [b] w3 (w3.setCell ⟨b,4,none⟩ v3):=(Kp.refl _ w3).setCell (.inl (by simp)) _
 have hgw3:∀g,v3.ownBlock=some g->g≠b/\w.heap.size<=g:=by
  intro g e
  rcases a3 with e2|⟨y,e2,hy⟩
  ·rw[e2] at e;exact h.gw g e
  ·rw[e2] at e
   cases e
   omega
 have hlo2:=h.lo
 refine⟨bkc hb3 4 rfl,blk_free hb3 4,⟨heap_setCell_same w3 b 4 _ _ v3 hb3, ?_, ?_, ?_,hgw3, ?_,hlo2⟩⟩
 ·have h1:OwnL (b::v3.ownBlock.toList) w3 w.heap.size VS (l.take k):=by
   refine h.sh.kp kA (fun x hx=> .inl (List.mem_cons_of_mem _ hx)) (fun g e hm=>(h.gv g e).2 (by simpa using hm)) (fun x hx=> ?_)
   rcases List.mem_cons.1 hx with e|e
   ·exact .inl (by simp[e])
   ·rcases a3 with e2|⟨y,e2,hy⟩
    ·rw[e2] at e;exact .inl (List.mem_cons_of_mem _ e)
    ·rw[e2] at e
     simp at e
     omega
  exact h1.kp kS (fun y hy=> .inl (by simp at hy;simp[hy])) (fun g e hm=>by simp at hm;exact(h.gv g e).1 hm) (fun x hx=> .inl hx)
 ·intro g e
  refine⟨(h.gv g e).1,fun e3=> ?_⟩
  rcases a3 with e2|⟨y,e2,hy⟩
  ·rw[e2] at e3;exact(h.gv g e).2 e3
  ·rw[e2] at e3
   cases e3
   have:=hvl _ e
   omega
 ·have e:iv .i64 (firsts l (j+1))=iv .i64 (firsts l j)++[.int .i64 y]:=by rw[firsts_succ,hy,iv_app];rfl
  rw[e]
  exact kS.own o3 (fun g e hm=>by simp at hm;exact(hgw3 g e).1 hm)
 ·exact(h.kp.trans kA (fun x hx=> .inr ((h.gw x (by simpa using hx)).2))).trans kS (by intro y hy;simp at hy;omega)
theorem NewR.fin{w wr:World}{id pat tr n b:Nat}{l:List (List Int)}{VS VW:Value}(h:NewR w id pat tr b n n l wr VS VW)(hn:l.length=n)(h1:1<=n):∃L,L.b=b/\(∀x∈L.all,w.heap.size<=x)/\∀(U:List Nat) (_:∀x∈U,x<w.heap.size),
 RsSt U wr L ⟨id,pat,tr,l⟩ (newCs n):=by
 subst hn
 obtain⟨Aw,cw,rfl,hw1,_,_,hw2⟩:=own_rd h.wh
 obtain⟨aw,rfl⟩:∃a,Aw=some a:=by
  cases Aw with
  |none=>have:=hw2 rfl;omega
  |some a=>exact⟨a,rfl⟩
 have hgw:=h.gw aw.block rfl
 have hwl:=own_lt h.wh aw.block rfl
 refine⟨⟨b,aw.block,none,none,none⟩,rfl,fun x hx=> ?_,fun U hU=> ?_⟩
 ·have:=h.lo
  simp[RLay.all] at hx
  omega
 have hbl:=lt_of_block h.blk
 have hlo:=h.lo
 have e:l.take l.length=l:=List.take_of_length_le (by omega)
 have hsh:=h.sh
 rw[e] at hsh
 obtain⟨A,c,rfl,h1,h2,h3,h4⟩:=hsh.form
 have hmem:∀x∈(⟨b,aw.block,none,none,none⟩:RLay).all++U,x=b\/x=aw.block\/x<w.heap.size:=by
  intro x hx
  rcases List.mem_append.1 hx with e|e
  ·simp[RLay.all] at e
   rcases e with e|e
   ·exact .inl e
   ·exact .inr (.inl e)
  ·exact .inr (.inr (hU x e))
 refine⟨fun x=>if x=b then 1 else if x=aw.block then 2 else 0,.slice A l.length c,.slice (some aw) l.length cw,.slice none 0 0,.slice none 0 0,.slice none 0 0,
  ⟨⟨by simp,hbl⟩,⟨by show(if aw.block=b then 1 else if aw.block=aw.block then 2 else 0)=2;rw[if_neg hgw.1,if_pos rfl],hwl⟩,fun x e=>(by cases e),fun x e=>(by cases e),fun x e=>(by cases e),fun x hx=> ?_⟩,
  h.blk,⟨A,c,rfl,hsh.ri (fun x hx=> ?_),h1,h2,h3⟩,⟨?_,rfl⟩,⟨[],[],rfl,World.ownsRow_nil _ 0 _ 3,rfl,rfl⟩,⟨[],World.ownsRow_nil _ 0 _ 11,rfl,rfl⟩,⟨[],World.ownsRow_nil _ 0 _ 6,rfl,rfl⟩⟩
 ·have:=hU x hx
  show(if x=b then 1 else if x=aw.block then 2 else 0)=0/\x<wr.heap.size
  rw[if_neg (by omega),if_neg (by omega)]
  exact⟨rfl,by omega⟩
 ·rcases hmem x hx with e|e|e
  ·refine .inl ⟨by simp[e],fun e2=> ?_⟩
   exact(h.gv x (by rw[ownBlock_slice];exact e2)).1 e
  ·refine .inl ⟨by simp[e,Value.ownBlock],fun e2=> ?_⟩
   exact(h.gv x (by rw[ownBlock_slice];exact e2)).2 (by rw[e];rfl)
  ·exact .inr (.inl e)
 ·have e:=whomN_new ⟨id,pat,tr,l⟩
  show World.ownsRow wr 0 3 1 (.slice (some aw) l.length cw) l.length (iv .i64 (whomN ⟨id,pat,tr,l⟩ (newCs l.length).whom))
  rw[show newCs l.length=newCs (Cfg.mk id pat tr l).shards.length from rfl,e]
  exact h.wh
end Go.Proofs.YtdiljpdohmeceaaGreat.co.cr
