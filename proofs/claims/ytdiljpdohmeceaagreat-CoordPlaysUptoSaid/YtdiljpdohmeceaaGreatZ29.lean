/- Words and walks that this claim rests on: proved lemmas alone. -/
import Derived.Test.YtdiljpdohmeceaaGreatZ28
set_option maxHeartbeats 16000000
set_option maxRecDepth 100000
namespace Go.Proofs.YtdiljpdohmeceaaGreat.co.cr
open Go.RowKit H O opk frame wir
theorem rdr_box{w2:World}{A:Option Addr}{n c lo:Nat}{xs:List Int}(o:Own 5 .u8 w2 lo (.slice A n c) xs)(hw:Wf xs):refr.Rdr (w2.alloc (.cells #[.slice A n c,.bool false] 106)) w2.heap.size (A.map Addr.block) (some xs):=by
 have hb:=heap_alloc_new w2 (.cells #[.slice A n c,.bool false] 106)
 have hlt:=fun g hg=>own_lt o.1 g hg
 obtain⟨A',c',e,g1,g2,r,n0⟩:=own_rd o.1
 cases e
 refine⟨A,c,hb,rfl,((Kp.refl [] w2).alloc _).rd_new r (by simp),g1, ?_,n0, ?_,hw⟩
 ·have:maxLen=9223372036854775807:=rfl
  omega
 ·intro e
  have:=hlt _ (by rw[ownBlock_slice];exact e)
  omega
theorem FinSt.write{U:List Nat}{L:RLay}{cf:Cfg}{s:Cs}{j:Job}{i ga:Nat}{a:Ask}{w w2:World}{data:List Int}(hC:RsSt U w L cf s)(ha:s.asks[i]?=some a)(han:a.answered=false)(hms:a.ms=[])(hga:L.ga=some ga)(k:Kp [] w w2)(bad was:Bool)
 (ok:bad=false->took j data=⟨was,false,[],[],0⟩) (no:bad=true->(took j data).err=3) (hk:j.kind≠4):∃f:Fa,FinSt U L cf s j i ga a w data bad f (w2.setCell ⟨ga,i*11+7,none⟩ (.bool was)):=by
 obtain⟨q6,Am,nm,cm,hf⟩:=(hC.kp (U2:=U) k (by simp) (fun x hx=> .inl hx)).faAt hga ha
 obtain⟨g2,hA⟩:=(hC.kp (U2:=U) k (by simp) (fun x hx=> .inl hx)).ask ha
 obtain rfl:g2=ga:=by have:=hA.hga;rw[hga] at this;exact(Option.some.inj this).symm
 have hin:g2∈L.all:=RLay.mem.2 (.inr (.inr (.inr (.inl hga))))
 have kS:Kp [g2] w2 (w2.setCell ⟨g2,i*11+7,none⟩ (.bool was)):=(Kp.refl _ w2).setCell (.inl (by simp)) _
 have hSin:∀x∈[g2],x∈L.all++U\/w2.heap.size<=x:=fun x hx=> .inl (by simp at hx;subst hx;exact List.mem_append.2 (.inl hin))
 have far:∀o v,o≠i*11+7->w2.cell? ⟨g2,o,none⟩=some v->(w2.setCell ⟨g2,i*11+7,none⟩ (.bool was)).cell? ⟨g2,o,none⟩=some v:=fun o v ho hv=>by
  rw[World.cell?_setCell_other]
  ·exact hv
  ·intro e
   simp only[Addr.mk.injEq,true_and,and_true] at e
   exact ho e.symm
 refine⟨⟨was,false,none,0,0,Am,nm,cm,[],a.ms⟩,(k.mono (by simp)).trans kS (fun x hx=> .inl (by simp at hx;subst hx;simp[hga])), ?_,fun j=> ?_,⟨World.cell?_setCell_same _ _ _ hf.q7,far _ _ (by omega) hf.q8,far _ _ (by omega) hf.q9,far _ _ (by omega) hf.q10,BSl.nil _ _,hf.mx.kp kS hSin (fun x hx=> .inl hx)⟩,fun e=>by rw[ok e,hms],no,fun e=>absurd e hk⟩
 ·rw[han] at q6
  exact far _ _ (by omega) q6
 ·rw[World.frozen?_setCell]
  exact hA.fr j
theorem FinSt.nope{U:List Nat}{L:RLay}{cf:Cfg}{s:Cs}{j:Job}{i ga:Nat}{a:Ask}{w w2:World}{data:List Int}(hC:RsSt U w L cf s)(ha:s.asks[i]?=some a)(han:a.answered=false)(hms:a.ms=[])(hga:L.ga=some ga)(k:Kp [] w w2)(bad:Bool)
 (ok:bad=false->took j data=⟨false,false,[],[],0⟩) (no:bad=true->(took j data).err=3) (hk:j.kind≠4):∃f:Fa,FinSt U L cf s j i ga a w data bad f w2:=by
 obtain⟨q6,Am,nm,cm,hf⟩:=(hC.kp (U2:=U) k (by simp) (fun x hx=> .inl hx)).faAt hga ha
 obtain⟨g2,hA⟩:=(hC.kp (U2:=U) k (by simp) (fun x hx=> .inl hx)).ask ha
 obtain rfl:g2=ga:=by have:=hA.hga;rw[hga] at this;exact(Option.some.inj this).symm
 rw[han] at q6
 exact⟨_,k.mono (by simp),q6,hA.fr,hf,fun e=>by rw[ok e,hms],no,fun e=>absurd e hk⟩
theorem FinSt.get{U:List Nat}{L:RLay}{cf:Cfg}{s:Cs}{j:Job}{i ga lo:Nat}{a:Ask}{w w2:World}{data p:List Int}{A5:Option Addr}{n5 c5:Nat}(hC:RsSt U w L cf s)(ha:s.asks[i]?=some a)(han:a.answered=false)(hms:a.ms=[])(hga:L.ga=some ga)(k:Kp [] w w2)(hp:Own 5 .u8 w2 lo (.slice A5 n5 c5) p)(hlo:w.heap.size<=lo)(bad:Bool)
 (ok:bad=false->took j data=⟨false,true,p,[],0⟩) (no:bad=true->(took j data).err=3) (hk:j.kind≠4):∃f:Fa,FinSt U L cf s j i ga a w data bad f ((w2.setCell ⟨ga,i*11+8,none⟩ (.bool true)).setCell ⟨ga,i*11+9,none⟩ (.slice A5 n5 c5)):=by
 have hlt:=hC.lt
 obtain⟨q6,Am,nm,cm,hf⟩:=(hC.kp (U2:=U) k (by simp) (fun x hx=> .inl hx)).faAt hga ha
 obtain⟨g2,hA⟩:=(hC.kp (U2:=U) k (by simp) (fun x hx=> .inl hx)).ask ha
 obtain rfl:g2=ga:=by have:=hA.hga;rw[hga] at this;exact(Option.some.inj this).symm
 have hin:g2∈L.all:=RLay.mem.2 (.inr (.inr (.inr (.inl hga))))
 have kS:Kp [g2] w2 ((w2.setCell ⟨g2,i*11+8,none⟩ (.bool true)).setCell ⟨g2,i*11+9,none⟩ (.slice A5 n5 c5)):=((Kp.refl _ w2).setCell (.inl (by simp)) _).setCell (.inl (by simp)) _
 have hSin:∀x∈[g2],x∈L.all++U\/w2.heap.size<=x:=fun x hx=> .inl (by simp at hx;subst hx;exact List.mem_append.2 (.inl hin))
 have far:∀o v,o≠i*11+8->o≠i*11+9->w2.cell? ⟨g2,o,none⟩=some v->((w2.setCell ⟨g2,i*11+8,none⟩ (.bool true)).setCell ⟨g2,i*11+9,none⟩ (.slice A5 n5 c5)).cell? ⟨g2,o,none⟩=some v:=fun o v h8 h9 hv=>by
  rw[World.cell?_setCell_other,World.cell?_setCell_other]
  ·exact hv
  ·intro e
   simp only[Addr.mk.injEq,true_and,and_true] at e
   exact h8 e.symm
  ·intro e
   simp only[Addr.mk.injEq,true_and,and_true] at e
   exact h9 e.symm
 have c8:(w2.setCell ⟨g2,i*11+8,none⟩ (.bool true)).cell? ⟨g2,i*11+8,none⟩=some (.bool true):=World.cell?_setCell_same _ _ _ hf.q8
 have c9:(w2.setCell ⟨g2,i*11+8,none⟩ (.bool true)).cell? ⟨g2,i*11+9,none⟩=some (.slice none 0 0):=by
  rw[World.cell?_setCell_other]
  ·exact hf.q9
  ·intro e
   simp only[Addr.mk.injEq,true_and,and_true] at e
   omega
 rw[han] at q6
 refine⟨⟨false,true,A5,n5,c5,Am,nm,cm,p,a.ms⟩,(k.mono (by simp)).trans kS (fun x hx=> .inl (by simp at hx;subst hx;simp[hga])),far _ _ (by omega) (by omega) q6,fun j=> ?_,⟨far _ _ (by omega) (by omega) hf.q7, ?_,World.cell?_setCell_same _ _ _ c9,far _ _ (by omega) (by omega) hf.q10, ?_,hf.mx.kp kS hSin (fun x hx=> .inl hx)⟩,fun e=>by rw[ok e,hms],no,fun e=>absurd e hk⟩
 ·rw[World.frozen?_setCell,World.frozen?_setCell]
  exact hA.fr j
 ·rw[World.cell?_setCell_other]
  ·exact c8
  ·intro e
   simp only[Addr.mk.injEq,true_and,and_true] at e
   omega
 ·have h2:=hp.kp kS (fun g e hm=>by
   have:=hp.2 g e
   have:=hlt g2 (List.mem_append.2 (.inl hin))
   simp at hm
   omega)
  have hl2:=hp.len
  exact BSl.own h2 (fun x hx=> .inl (by have:=hlt x hx;omega))
theorem RsSt.askMs{U:List Nat}{w:World}{L:RLay}{cf:Cfg}{s:Cs}(h:RsSt U w L cf s){ga:Nat}(hga:L.ga=some ga){i:Nat}{a:Ask}(ha:s.asks[i]?=some a){v:Value}{ms:List (ByteArray×Int)}(hm:MSl (L.all++U) w v ms):RsSt U (w.setCell ⟨ga,i*11+10,none⟩ v) L cf {s with asks:=s.asks.set i {a with ms:=ms}}:=by
 obtain⟨κ,VS,VW,VL,VA,VD,h⟩:=h
 obtain⟨g,c,fv,mv',rfl,hg,cell,fr,hf,_,upd⟩:=h.askAt ha
 obtain rfl:g=ga:=by rw[hga] at hg;exact(Option.some.inj hg).symm
 exact⟨_,_,_,_,_,_,upd {a with ms:=ms} fv v 10 v rfl (by decide) hf hm⟩
theorem FinSt.finds{U:List Nat}{L:RLay}{cf:Cfg}{s:Cs}{j:Job}{i ga:Nat}{a:Ask}{w w2:World}{data:List Int}{Am:Option Addr}{nm cm:Nat}{ms:List (ByteArray×Int)}(hC:RsSt U w L cf s)(ha:s.asks[i]?=some a)(han:a.answered=false)(hga:L.ga=some ga)(k:Kp [] w w2)(ho:w2.ownsRow 0 73 2 (.slice Am nm cm) nm (mv ms))(hl:ms.length=nm)(hlo:∀g,(Value.slice Am nm cm).ownBlock=some g->w.heap.size<=g)(bad:Bool)
 (ok:bad=false->took j data=⟨false,false,[],ms,0⟩) (no:bad=true->(took j data).err=3):∃f:Fa,FinSt U L cf s j i ga a w data bad f (w2.setCell ⟨ga,i*11+10,none⟩ (.slice Am nm cm)):=by
 have hlt:=hC.lt
 have hC2:=hC.kp (U2:=U) k (by simp) (fun x hx=> .inl hx)
 obtain⟨g2,hA⟩:=hC2.ask ha
 obtain rfl:g2=ga:=by have:=hA.hga;rw[hga] at this;exact(Option.some.inj this).symm
 have kS:Kp [g2] w2 (w2.setCell ⟨g2,i*11+10,none⟩ (.slice Am nm cm)):=(Kp.refl _ w2).setCell (.inl (by simp)) _
 have hm:MSl (L.all++U) w2 (.slice Am nm cm) ms:=MSl.own (by rw[hl];exact ho) (fun g e hm=>by have:=hlo g e;have:=hlt g hm;omega)
 have hR:=hC2.askMs hga ha hm
 have hil:=(List.getElem?_eq_some_iff.1 ha).1
 have haz:(s.asks.set i {a with ms:=ms})[i]?=some {a with ms:=ms}:=List.getElem?_set_self hil
 obtain⟨q6,Am2,nm2,cm2,hf⟩:=hR.faAt hga haz
 have q6:(w2.setCell ⟨g2,i*11+10,none⟩ (.slice Am nm cm)).cell? ⟨g2,i*11+6,none⟩=some (.bool a.answered):=q6
 rw[han] at q6
 refine⟨_,(k.mono (by simp)).trans kS (fun x hx=> .inl (by simp at hx;subst hx;simp[hga])),q6,fun j=> ?_,hf,ok,no,fun _=>⟨rfl,rfl,rfl,hR⟩⟩
 rw[World.frozen?_setCell]
 exact hA.fr j
theorem dRep_cases(xs:List Int):∃er l z,dRep xs=(er,l,z)/\(z=0\/(z=3/\er=0/\l=[])):=by
 obtain⟨n0,s1,h0⟩:∃a b,stNum (some xs)=(a,b):=⟨_,_,rfl⟩
 obtain⟨n1,s2,h1⟩:∃a b,stNum s1=(a,b):=⟨_,_,rfl⟩
 simp only[dRep,h0,h1]
 by_cases h:n0<=100/\n1<=8/\(stNums n1 s2).2=some []
 ·rw[if_pos h]
  exact⟨_,_,_,rfl,.inl rfl⟩
 ·rw[if_neg h]
  exact⟨_,_,_,rfl,.inr ⟨rfl,rfl,rfl⟩⟩
def upTo(F:Nat->Fa)(q:Nat):List (ByteArray×Int):=(List.range q).flatMap fun p=>(F p).ms
theorem upTo_succ(F:Nat->Fa)(q:Nat):upTo F (q+1)=upTo F q++(F q).ms:=by
 simp[upTo,List.range_succ,List.flatMap_append]
theorem upTo_len{F:Nat->Fa}{q n:Nat}(h:q<=n):(upTo F q).length<=(upTo F n).length:=by
 induction n with
 |zero=>obtain rfl:q=0:=by omega
        exact Nat.le_refl _
 |succ n ih=>
  by_cases e:q=n+1
  ·subst e;exact Nat.le_refl _
  ·rw[upTo_succ,List.length_append]
   have:=ih (by omega)
   omega
theorem sortM_len(l:List (ByteArray×Int)):(sortM l).length=l.length:=by simp[sortM]
theorem sortM_app(l r:List (ByteArray×Int)):sortM (sortM l++r)=sortM (l++r):=sortM_perm ((List.mergeSort_perm l _).append_right r)
structure AnL(S:List Nat)(w5:World)(O:Nat)(F:Nat->Fa)(q:Nat)(was has:Bool)(At:Option Addr)(nt ct:Nat)(Am:Option Addr)(nm cm:Nat)(wr:World):Prop where
 hd:wr.heap[O]?=some (.cells #[.int .i64 0,.int .i64 0,.bool was,.bool has,.slice At nt ct,.slice Am nm cm] 138 (0,0))
 kp:Kp [] w5 wr
 val:0<q->was=(F (q-1)).was/\has=(F (q-1)).has/\At=(F (q-1)).At/\nt=(F (q-1)).nt/\ct=(F (q-1)).ct
 mx:MSl (O::S) wr (.slice Am nm cm) (sortM (upTo F q))
def answ(s:Cs)(i:Nat)(a:Ask)(j:Job)(data:List Int):Cs:=
 if(took j data).err≠0 then endErr s (took j data).err
 else if(s.asks.set i {a with answered:=true,ms:=(took j data).ms}).all (·.answered)=true then
  endJob s ⟨s.ended,0,(took j data).was,(took j data).has,(took j data).text,sortM ((s.asks.set i {a with answered:=true,ms:=(took j data).ms}).flatMap (·.ms))⟩
 else {s with asks:=s.asks.set i {a with answered:=true,ms:=(took j data).ms}}
theorem answered_any(U:List Nat)(w:World)(L:RLay)(cf:Cfg)(s:Cs)(j:Job)(jr:List Job)(i ga lo:Nat)(a:Ask)(hC:RsSt U w L cf s)(ok:CsOk cf s)(ho:HOk s)(hj:s.jobs=j::jr)(ha:s.asks[i]?=some a)(han:a.answered=false)(hga:L.ga=some ga)(A:Option Addr)(n c:Nat)(data:List Int)
 (hown:Own 5 .u8 w lo (.slice A n c) data) (hoff:∀g,(Value.slice A n c).ownBlock=some g->g∉L.all++U) (hw:Wf data) (hn9:n<=50000) (hd9:s.done.length<=1000000) (he9:s.ended<=1000000) (hsum:((s.asks.set i {a with answered:=true,ms:=(took j data).ms}).flatMap (·.ms)).length<=100000):
 Calls Tryz.prog 124 #[.pointer (some ⟨L.b,0,none⟩),.pointer (some ⟨ga,i*11,none⟩),.slice A n c] w (REnds U L cf (answ s i a j data) w):=by
 have hq:=hC.faAt hga ha
 have hms0:=ho.ms0 a (List.mem_of_getElem? ha) han
 have hnl:data.length=n:=hown.len
 obtain⟨gx,hA⟩:=hC.ask ha
 obtain rfl:gx=ga:=by have:=hA.hga;rw[hga] at this;exact(Option.some.inj this).symm
 have jok:=ok.jobs j (by rw[hj];simp)
 have HC:=As.mk hC
 obtain⟨κ,VS,VW,VL,VA,VD,h⟩:=hC
 obtain⟨past,vs,j1,j2,j3,j4⟩:=h.jq
 have hjg:(past++s.jobs)[s.ended]?=some j:=by rw[List.getElem?_append_right (by omega),j1,Nat.sub_self,hj];rfl
 obtain⟨tv,g0,g1,g2,htx⟩:=j3.get hjg
 have hjl:0<s.jobs.length:=by rw[hj];simp
 obtain⟨gL,cL,rfl,_,_⟩:=own_form j2 (by omega)
 obtain⟨At,ct,rfl,_⟩:=id htx
 obtain⟨nt,hnt⟩:∃nt,j.text.length=nt:=⟨_,rfl⟩
 rw[hnt] at g2
 obtain⟨t,ht⟩:∃t,s.ended=t:=⟨_,rfl⟩
 obtain⟨nL,hnL⟩:∃n,s.ended+s.jobs.length=n:=⟨_,rfl⟩
 have b5:w.cell? ⟨L.b,5,none⟩=some (.slice (some ⟨gL,0,none⟩) nL cL):=by rw[<-hnL];exact bkc h.hd 5 rfl
 have b6:w.cell? ⟨L.b,6,none⟩=some (.int .i64 (t:Int)):=by rw[<-ht];exact bkc h.hd 6 rfl
 have d0:w.cell? ⟨gL,t*3,none⟩=some (.int .i64 (j.kind:Int)):=by rw[<-ht,j2.cellAt _ (by omega)];exact g0
 have d1:w.cell? ⟨gL,t*3+1,none⟩=some (.string j.key):=by rw[<-ht,j2.cellAt _ (by omega)];exact g1
 have d2:w.cell? ⟨gL,t*3+2,none⟩=some (.slice At nt ct):=by rw[<-ht,j2.cellAt _ (by omega)];exact g2
 have i0:(0:Int)<=(t:Int):=by omega
 have i1:(t:Int)<(nL:Int):=by omega
 have t9:t<=1000000:=by omega
 obtain⟨kd,hkd⟩:∃kd:Int,(j.kind:Int)=kd:=⟨_,rfl⟩
 obtain⟨key,hkey⟩:∃key,j.key=key:=⟨_,rfl⟩
 rw[hkd] at d0
 rw[hkey] at d1
 have KX:As (∀wX,Kp [] w wX->wX.cell? ⟨L.b,5,none⟩=some (.slice (some ⟨gL,0,none⟩) nL cL)/\wX.cell? ⟨L.b,6,none⟩=some (.int .i64 (t:Int))/\wX.cell? ⟨gL,t*3,none⟩=some (.int .i64 kd)/\wX.cell? ⟨gL,t*3+1,none⟩=some (.string key)/\wX.cell? ⟨gL,t*3+2,none⟩=some (.slice At nt ct)):=⟨fun wX kX=>
  ⟨kX.cell b5 (by simp),kX.cell b6 (by simp),kX.cell d0 (by simp),kX.cell d1 (by simp),kX.cell d2 (by simp)⟩⟩
 have HKD:=As.mk hkd
 have HJ:=As.mk jok
 have HEN:As (∀wX er,Kp L.ga.toList w wX->Calls Tryz.prog 98 #[.pointer (some ⟨L.b,0,none⟩),.agg #[.int .i64 0,.int .i64 er,.bool false,.bool false,.slice none 0 0,.slice none 0 0]] wX (REnds U L cf (endErr s er) w)):=⟨fun wX er kX=>ends_any U w wX L cf s κ VS VW _ VA VD h kX j jr hj 0 er false false none none 0 0 0 0 [] [] (BSl.nil _ _) (MSl.nil _ _) hd9 he9⟩
 have HED:As (∀wX was has At nt ct Am nm cm text ms,Kp L.ga.toList w wX->BSl (L.all++U) wX (.slice At nt ct) text->MSl (L.all++U) wX (.slice Am nm cm) ms->Calls Tryz.prog 98 #[.pointer (some ⟨L.b,0,none⟩),.agg #[.int .i64 0,.int .i64 0,.bool was,.bool has,.slice At nt ct,.slice Am nm cm]] wX (REnds U L cf (endJob s ⟨s.ended,0,was,has,text,ms⟩) w)):=⟨fun wX was has At nt ct Am nm cm text ms kX h1 h2=>ends_any U w wX L cf s κ VS VW _ VA VD h kX j jr hj 0 0 was has At Am nt ct nm cm text ms h1 h2 hd9 he9⟩
 have HQ:=As.mk (And.intro hq hms0)
 have HD:=As.mk (And.intro hown (And.intro hoff hw))
 have HNL:=As.mk hnl
 have HAA:=As.mk (And.intro ha (And.intro hj (And.intro ho ok)))
 have HGA:=As.mk hga
 have HAK:=As.mk hA
 have HAN:=As.mk han
 have HSUM:=As.mk hsum
 have hgl:=hA.lt
 have hgne:=hA.ne
 clear b5 b6 d0 d1 d2 h j1 j2 j3 j4 hjg g0 g1 g2 htx hjl hnL ht jok hkd hkey hnt hq hms0 hown hoff hw hnl ha hj ho ok hga hA han hsum
 go_enter Tryz.func124,Tryz.ntmps124
 go_upto_region 0 with fail
 go_cut [6] from 18 to 27 (fun v6 wx=>∃(jb:Nat) (w1:World),w1=wx/\v6= .pointer (some ⟨jb,0,none⟩)/\w1.cell? ⟨jb,0,none⟩=some (.int .i64 kd)/\As (Kp [] w w1/\w.heap.size<=jb))
 case first=>
  go_region_held3 (fun wX=>wX.cell? ⟨L.b,5,none⟩=some (.slice (some ⟨gL,0,none⟩) nL cL)/\wX.cell? ⟨L.b,6,none⟩=some (.int .i64 (t:Int))/\wX.cell? ⟨gL,t*3,none⟩=some (.int .i64 kd)/\wX.cell? ⟨gL,t*3+1,none⟩=some (.string key)/\wX.cell? ⟨gL,t*3+2,none⟩=some (.slice At nt ct))
   (first|exact KX.out _ (Kp.refl [] w)|exact KX.out _ (Kp.refl [] w).drew|exact KX.out _ ((Kp.refl [] w).drewN _)|exact KX.out _ ((Kp.refl [] w).drew.alloc _)|exact KX.out _ (((Kp.refl [] w).drewN _).alloc _)|exact KX.out _ ((Kp.refl [] w).alloc _)|exact KX.out _ ((Kp.refl [] w).alloc _).drew) (fail)
  go_wp2_with fail
  go_meet
  have hq:=heap_alloc_new w (.cells #[.int .i64 kd,.string key,.slice At nt ct] 168)
  exact⟨w.heap.size,_,rfl,rfl,bkc hq 0 rfl,⟨((Kp.refl [] w).alloc _).drew,Nat.le_refl _⟩⟩
 case rest=>
  obtain⟨jb,w1,rfl,rfl,q0,HK1⟩:=hcut
  clear KX
  go_upto_block 0 with fail
  go_cut [7] from 30 to 112 (fun v7 wx=>∃(bad:Bool) (f:Fa) (wz:World),wz=wx/\v7= .bool bad/\As (FinSt U L cf s j i gx a w data bad f wz))
  case first=>
   have hk4:(kd=1\/kd=2)\/kd=3\/kd=4:=by
    have h1:=HJ.out.kind
    have h2:=HKD.out
    omega
   rcases hk4 with hk12|rfl|rfl
   ·have HDR:As (Calls Tryz.prog 130 #[.slice A n c] w1 (ref13.DRep data w1)):=⟨by
     obtain⟨A',c',e,g1,g2,r,n0⟩:=own_rd HD.out.1.1
     have e2:=(Value.slice.inj e)
     obtain⟨rfl,_,rfl⟩:=e2
     have hl:=fun g hg=>own_lt HD.out.1.1 g hg
     have hz:=HK1.out.1.size
     exact ref13.decRep_any A n c data w1 HNL.out (HK1.out.1.rd_new r (by simp)) (by have:=HNL.out;omega) g2 n0 (.inl (fun a ha=>by have:=hl a.block (by rw[ha];rfl);omega)) HD.out.2.2 (by omega)⟩
    obtain⟨er,l,z,hdr,hz03⟩:=dRep_cases data
    obtain⟨nl,hnl⟩:∃nl,l.length=nl:=⟨_,rfl⟩
    have HDD:=As.mk hdr
    have HDR2:As (Calls Tryz.prog 130 #[.slice A n c] w1 fun e w2=>∃AL cl,e= .returned (.tuple #[.int .i64 er,.slice AL nl cl,.int .i64 z])/\w2.cell? ⟨jb,0,none⟩=some (.int .i64 kd)/\(∃v,w2.cell? ⟨gx,i*11+7,none⟩=some v)/\w2.frozen? ⟨gx,i*11+7,none⟩=false/\As (Rd w2 AL (iv .i64 l)/\Kp L.ga.toList w w2/\Kp [] w w2)):=⟨by
     refine HDR.out.mono ?_
     rintro e w2 ⟨er2,l2,z2,AL,nl2,cl,h1,rfl,h2,h3,_,_,k2⟩
     rw[HDD.out] at h1
     cases h1
     obtain rfl:nl2=nl:=by omega
     have kk:=HK1.out.1.trans k2 (by simp)
     obtain⟨_,_,_,_,hf⟩:=(HC.out.kp (U2:=U) kk (by simp) (fun x hx=> .inl hx)).faAt HGA.out HAA.out.1
     obtain⟨g2,hA2⟩:=(HC.out.kp (U2:=U) kk (by simp) (fun x hx=> .inl hx)).ask HAA.out.1
     obtain rfl:g2=gx:=by have:=hA2.hga;rw[HGA.out] at this;exact(Option.some.inj this).symm
     exact⟨AL,cl,rfl,k2.cell q0 (by simp),⟨_,hf.q7⟩,hA2.fr _,⟨h3,kk.mono (by simp),kk⟩⟩⟩
    have HNLL:=As.mk hnl
    clear HDR hdr hnl
    rcases hz03 with rfl|⟨rfl,rfl,rfl⟩
    ·by_cases e0:er=0
     ·subst e0
      have HL0:As (nl=0->l=[]):=⟨fun e=>List.eq_nil_of_length_eq_zero (by rw[HNLL.out,e])⟩
      rcases hk12 with rfl|rfl
      ·by_cases hl0:nl=0
       ·have HLE:=As.mk (HL0.out hl0)
        subst hl0
        go_upto_region 6 with(first
         |(go_at_call 130;refine HDR2.out.mono ?_;rintro e w2 ⟨AL,cl,rfl,q0,⟨v7,q7⟩,f7,H2⟩;clear HDR2)
         |fail)
        go_wp2_with fail
        go_meet
        have hkd:=HKD.out
        have hdr:=HDD.out
        obtain⟨f,hf⟩:=FinSt.write (j:=j) (data:=data) HC.out HAA.out.1 HAN.out HQ.out.2 HGA.out H2.out.2.2 false false (fun _=>by rw[took,if_pos (by omega),tookW,hdr,if_neg (by simp),if_neg (by simp),if_pos rfl,HLE.out];rfl) (fun e=>by cases e) (by omega)
        exact⟨false,f,_,rfl,rfl,⟨hf⟩⟩
       ·obtain⟨x,l',rfl⟩:∃x l',l=x::l':=by
         cases l with
         |nil=>exact absurd (by have:=HNLL.out;simpa using this.symm) hl0
         |cons x l'=>exact⟨x,l',rfl⟩
        have hl1:(0:Int)<(nl:Int):=by omega
        have hl2:0<nl:=by omega
        go_upto_region 6 with(first
         |(go_at_call 130;refine HDR2.out.mono ?_;rintro e w2 ⟨AL,cl,rfl,q0,⟨v7,q7⟩,f7,H2⟩;clear HDR2;obtain⟨bA,oA,rfl,dA⟩:=int_at H2.out.1 0 (by simp))
         |fail)
        simp only[List.getElem_cons_zero,Nat.add_zero] at dA
        by_cases hx1:x=1
        ·subst hx1
         go_wp2_with fail
         go_meet
         have hkd:=HKD.out
         have hdr:=HDD.out
         obtain⟨f,hf⟩:=FinSt.write (j:=j) (data:=data) HC.out HAA.out.1 HAN.out HQ.out.2 HGA.out H2.out.2.2 false true (fun _=>by rw[took,if_pos (by omega),tookW,hdr,if_neg (by simp),if_neg (by simp),if_pos rfl];rfl) (fun e=>by cases e) (by omega)
         exact⟨false,f,_,rfl,rfl,⟨hf⟩⟩
        ·have HX1:=As.mk hx1
         have hx1b:(x==1)=false:=by simpa using hx1
         go_wp2_with fail
         go_meet
         have hkd:=HKD.out
         have hdr:=HDD.out
         obtain⟨f,hf⟩:=FinSt.write (j:=j) (data:=data) HC.out HAA.out.1 HAN.out HQ.out.2 HGA.out H2.out.2.2 false false (fun _=>by rw[took,if_pos (by omega),tookW,hdr,if_neg (by simp),if_neg (by simp),if_pos rfl];simp[HX1.out]) (fun e=>by cases e) (by omega)
         exact⟨false,f,_,rfl,rfl,⟨hf⟩⟩
      ·go_upto_region 6 with(first
        |(go_at_call 130;refine HDR2.out.mono ?_;rintro e w2 ⟨AL,cl,rfl,q0,⟨v7,q7⟩,f7,H2⟩;clear HDR2)
        |fail)
       go_wp2_with fail
       go_meet
       have hkd:=HKD.out
       have hdr:=HDD.out
       obtain⟨f,hf⟩:=FinSt.write (j:=j) (data:=data) HC.out HAA.out.1 HAN.out HQ.out.2 HGA.out H2.out.2.2 false true (fun _=>by rw[took,if_neg (by omega),if_pos (by omega),tookW,hdr,if_neg (by simp),if_neg (by simp),if_pos rfl];rfl) (fun e=>by cases e) (by omega)
       exact⟨false,f,_,rfl,rfl,⟨hf⟩⟩
     ·by_cases e7:er=7
      ·subst e7
       rcases hk12 with rfl|rfl
       ·go_upto_region 6 with(first
         |(go_at_call 130;refine HDR2.out.mono ?_;rintro e w2 ⟨AL,cl,rfl,q0,⟨v7,q7⟩,f7,H2⟩;clear HDR2)
         |fail)
        go_wp2_with fail
        go_meet
        have hkd:=HKD.out
        have hdr:=HDD.out
        obtain⟨f,hf⟩:=FinSt.write (j:=j) (data:=data) HC.out HAA.out.1 HAN.out HQ.out.2 HGA.out H2.out.2.2 false false (fun _=>by rw[took,if_pos (by omega),tookW,hdr,if_neg (by simp),if_pos rfl]) (fun e=>by cases e) (by omega)
        exact⟨false,f,_,rfl,rfl,⟨hf⟩⟩
       ·go_upto_region 6 with(first
         |(go_at_call 130;refine HDR2.out.mono ?_;rintro e w2 ⟨AL,cl,rfl,q0,⟨v7,q7⟩,f7,H2⟩;clear HDR2)
         |fail)
        go_wp2_with fail
        go_meet
        have hkd:=HKD.out
        have hdr:=HDD.out
        obtain⟨f,hf⟩:=FinSt.write (j:=j) (data:=data) HC.out HAA.out.1 HAN.out HQ.out.2 HGA.out H2.out.2.2 false false (fun _=>by rw[took,if_neg (by omega),if_pos (by omega),tookW,hdr,if_neg (by simp),if_pos rfl]) (fun e=>by cases e) (by omega)
        exact⟨false,f,_,rfl,rfl,⟨hf⟩⟩
      ·have b0:(er !=0)=true:=by simpa using e0
       have b7:(er !=7)=true:=by simpa using e7
       have HE2:As (answ s i a j data=endErr s er):=⟨by
        have hdr:=HDD.out
        have hkd:=HKD.out
        have e:(took j data).err=er:=by
         rcases hk12 with h|h
         ·rw[took,if_pos (by omega),tookW,hdr,if_neg (by simp),if_neg e7,if_neg e0]
         ·rw[took,if_neg (by omega),if_pos (by omega),tookW,hdr,if_neg (by simp),if_neg e7,if_neg e0]
        rw[answ,if_pos (by rw[e];exact e0),e]⟩
       rcases hk12 with rfl|rfl
       all_goals
        go_upto_region 7 with(first
         |(go_at_call 130;refine HDR2.out.mono ?_;rintro e w2 ⟨AL,cl,rfl,q0,⟨v7,q7⟩,f7,H2⟩;clear HDR2)
         |fail)
        go_wp2_with (go_at_call 98;refine(HEN.out _ er H2.out.2.1).mono ?_;rintro e w3 ⟨rfl,HR⟩;have HR:=As.mk HR)
        go_end0
        rw[HE2.out]
        exact⟨rfl,HR.out⟩
    ·rcases hk12 with rfl|rfl
     ·go_upto_region 6 with(first
       |(go_at_call 130;refine HDR2.out.mono ?_;rintro e w2 ⟨AL,cl,rfl,q0,⟨v7,q7⟩,f7,H2⟩;clear HDR2)
       |fail)
      have hnl0:nl=0:=HNLL.out.symm
      subst hnl0
      go_wp2_with fail
      go_meet
      have hkd:=HKD.out
      have hdr:=HDD.out
      obtain⟨f,hf⟩:=FinSt.write (j:=j) (data:=data) HC.out HAA.out.1 HAN.out HQ.out.2 HGA.out H2.out.2.2 true false (fun e=>by cases e) (fun _=>by rw[took,if_pos (by omega),tookW,hdr,if_pos (by simp)]) (by omega)
      exact⟨true,f,_,rfl,rfl,⟨hf⟩⟩
     ·go_upto_region 6 with(first
       |(go_at_call 130;refine HDR2.out.mono ?_;rintro e w2 ⟨AL,cl,rfl,q0,⟨v7,q7⟩,f7,H2⟩;clear HDR2)
       |fail)
      go_wp2_with fail
      go_meet
      have hkd:=HKD.out
      have hdr:=HDD.out
      obtain⟨f,hf⟩:=FinSt.write (j:=j) (data:=data) HC.out HAA.out.1 HAN.out HQ.out.2 HGA.out H2.out.2.2 true true (fun e=>by cases e) (fun _=>by rw[took,if_neg (by omega),if_pos (by omega),tookW,hdr,if_pos (by simp)]) (by omega)
      exact⟨true,f,_,rfl,rfl,⟨hf⟩⟩
   ·obtain⟨n0,s1,h0⟩:∃a b,stNum (some data)=(a,b):=⟨_,_,rfl⟩
    obtain⟨p,s2,h2⟩:∃a b,stBytes s1=(a,b):=⟨_,_,rfl⟩
    have hl0:(left (some data)).length<=140737488351232:=by show data.length<=140737488351232;have:=HNL.out;omega
    have hl1:(left s1).length<=140737488351232:=by
     have q1:=refr.left_le hl0
     rwa[h0] at q1
    obtain⟨n5,hn5⟩:∃n5,p.length=n5:=⟨_,rfl⟩
    have HTG:As (took j data=tookG data):=⟨by
     have hkd:=HKD.out
     rw[took,if_neg (by omega),if_neg (by omega),if_pos (by omega)]⟩
    have HOD:As (∀wX,Kp [] w wX->Own 5 .u8 wX lo (.slice A n c) data):=⟨fun wX kX=>HD.out.1.kp kX (by simp)⟩
    have HGX:As (∀g,(g=A.map Addr.block\/g=none)->∀x,g=some x->x≠gx):=⟨fun g hg x hx=>by
     rcases hg with rfl|rfl
     ·intro e
      subst e
      exact HD.out.2.1 x (by rw[ownBlock_slice];exact hx) (List.mem_append.2 (.inl (RLay.mem.2 (.inr (.inr (.inr (.inl HGA.out)))))))
     ·cases hx⟩
    have HNM:As (Calls Tryz.prog 35 #[.pointer (some ⟨w1.heap.size,0,none⟩)] (w1.alloc (.cells #[.slice A n c,.bool false] 106)) fun e w2=>e= .returned (.int .i64 (n0:Int))/\As (∃g,refr.Rdr w2 w1.heap.size g s1/\(g=A.map Addr.block\/g=none)/\Kp [] w w2)):=⟨by
     refine(refr.num_any _ _ _ _ (rdr_box (HOD.out w1 HK1.out.1) HD.out.2.2) hl0).mono ?_
     rw[h0]
     rintro e w2 ⟨rfl,g2,R2,G2,K2⟩
     exact⟨rfl,⟨g2,R2,G2,(HK1.out.1.alloc _).trans K2 (fun x hx=> .inr (by simp at hx;have:=HK1.out.1.size;omega))⟩⟩⟩
    have HBY:As (∀w2,(∃g,refr.Rdr w2 w1.heap.size g s1/\(g=A.map Addr.block\/g=none)/\Kp [] w w2)->Calls Tryz.prog 36 #[.pointer (some ⟨w1.heap.size,0,none⟩)] w2 fun e w3=>∃A5 c5,e= .returned (.slice A5 n5 c5)/\(∃v,w3.cell? ⟨gx,i*11+8,none⟩=some v)/\w3.frozen? ⟨gx,i*11+8,none⟩=false/\(∃v,w3.cell? ⟨gx,i*11+9,none⟩=some v)/\w3.frozen? ⟨gx,i*11+9,none⟩=false/\
     As ((∃g,refr.Rdr w3 w1.heap.size g s2/\(g=A.map Addr.block\/g=none))/\Own 5 .u8 w3 w.heap.size (.slice A5 n5 c5) p/\Kp [] w w3)):=⟨fun w2 ⟨g2,R2,G2,K2⟩=>by
     refine(refr.bytes_any _ g2 s1 w2 R2 hl1).mono ?_
     rw[h2]
     rintro e w3 ⟨v5,rfl,o,g3,R3,G3,K3⟩
     obtain⟨A5,c5,rfl,_⟩:=own_rd o.1
     have kk:Kp [] w w3:=K2.trans K3 (fun x hx=> .inr (by simp at hx;have:=HK1.out.1.size;omega))
     have hC3:=HC.out.kp (U2:=U) kk (by simp) (fun x hx=> .inl hx)
     obtain⟨_,_,_,_,hf⟩:=hC3.faAt HGA.out HAA.out.1
     obtain⟨g9,hA2⟩:=hC3.ask HAA.out.1
     obtain rfl:g9=gx:=by have:=hA2.hga;rw[HGA.out] at this;exact(Option.some.inj this).symm
     rw[hn5] at o⊢
     refine⟨A5,c5,rfl,⟨_,hf.q8⟩,hA2.fr _,⟨_,hf.q9⟩,hA2.fr _,⟨⟨g3,R3, ?_⟩,o.lower K2.size,kk⟩⟩
     rcases G3 with e|e
     ·rw[e];exact G2
     ·exact .inr e⟩
    have HWH:As (∀w2 s',(∃g,refr.Rdr w2 w1.heap.size g s'/\(g=A.map Addr.block\/g=none))->Calls Tryz.prog 37 #[.pointer (some ⟨w1.heap.size,0,none⟩)] w2 fun e w3=>e= .returned (.bool (refr.whole s'))/\w3=w2):=⟨fun w2 s' ⟨g,R,_⟩=>refr.whole_any _ g s' w2 R⟩
    have HST:=As.mk (And.intro h0 h2)
    clear h0 h2 hl0 hl1 hn5
    by_cases e1:n0=1
    ·subst e1
     have HW4:As (∀w3 A5 c5,((∃g,refr.Rdr w3 w1.heap.size g s2/\(g=A.map Addr.block\/g=none))/\Own 5 .u8 w3 w.heap.size (.slice A5 n5 c5) p/\Kp [] w w3)->Calls Tryz.prog 37 #[.pointer (some ⟨w1.heap.size,0,none⟩)] ((w3.setCell ⟨gx,i*11+8,none⟩ (.bool true)).setCell ⟨gx,i*11+9,none⟩ (.slice A5 n5 c5)) fun e w4=>e= .returned (.bool (refr.whole s2))/\w4=(w3.setCell ⟨gx,i*11+8,none⟩ (.bool true)).setCell ⟨gx,i*11+9,none⟩ (.slice A5 n5 c5)):=⟨fun w3 A5 c5 ⟨⟨g,R,G⟩,_,k3⟩=>by
      have kS:Kp [gx] w3 ((w3.setCell ⟨gx,i*11+8,none⟩ (.bool true)).setCell ⟨gx,i*11+9,none⟩ (.slice A5 n5 c5)):=((Kp.refl _ w3).setCell (.inl (by simp)) _).setCell (.inl (by simp)) _
      refine HWH.out _ _ ⟨g,R.kp kS (by simp;have:=HK1.out.1.size;omega) (fun x hx hm=>HGX.out g G x hx (by simpa using hm)),G⟩⟩
     have HTT:As (took j data=if s2=some [] then⟨false,true,p,[],0⟩ else⟨false,false,[],[],3⟩):=⟨by rw[HTG.out,tookG,HST.out.1];simp only[if_true,HST.out.2]⟩
     cases hwh:refr.whole s2 with
     |true=>
      rw[hwh] at HW4
      have HS2:As (s2=some []):=⟨by simpa [refr.whole] using hwh⟩
      clear hwh
      go_wp2_with (first
       |(go_at_call 35;refine HNM.out.mono ?_;rintro e w2 ⟨rfl,H2⟩;have HB2:=As.mk (HBY.out w2 H2.out);clear HNM HBY)
       |(go_at_call 36;refine HB2.out.mono ?_;rintro e w3 ⟨A5,c5,rfl,⟨v8,q8⟩,f8,⟨v9,q9⟩,f9,H3⟩;have HW5:=As.mk (HW4.out w3 A5 c5 H3.out);clear HB2)
       |(go_at_call 37;refine HW5.out.mono ?_;rintro e w4 ⟨rfl,rfl⟩;clear HW5))
      go_meet
      have hkd:=HKD.out
      obtain⟨f,hf⟩:=FinSt.get (j:=j) (data:=data) HC.out HAA.out.1 HAN.out HQ.out.2 HGA.out H3.out.2.2 H3.out.2.1 (Nat.le_refl _) false (fun _=>by rw[HTT.out,if_pos HS2.out]) (fun e=>by cases e) (by omega)
      exact⟨false,f,_,rfl,rfl,⟨hf⟩⟩
     |false=>
      rw[hwh] at HW4
      have HS2:As (¬s2=some []):=⟨by simpa [refr.whole] using hwh⟩
      clear hwh
      go_wp2_with (first
       |(go_at_call 35;refine HNM.out.mono ?_;rintro e w2 ⟨rfl,H2⟩;have HB2:=As.mk (HBY.out w2 H2.out);clear HNM HBY)
       |(go_at_call 36;refine HB2.out.mono ?_;rintro e w3 ⟨A5,c5,rfl,⟨v8,q8⟩,f8,⟨v9,q9⟩,f9,H3⟩;have HW5:=As.mk (HW4.out w3 A5 c5 H3.out);clear HB2)
       |(go_at_call 37;refine HW5.out.mono ?_;rintro e w4 ⟨rfl,rfl⟩;clear HW5))
      go_meet
      have hkd:=HKD.out
      obtain⟨f,hf⟩:=FinSt.get (j:=j) (data:=data) HC.out HAA.out.1 HAN.out HQ.out.2 HGA.out H3.out.2.2 H3.out.2.1 (Nat.le_refl _) true (fun e=>by cases e) (fun _=>by rw[HTT.out,if_neg HS2.out]) (by omega)
      exact⟨true,f,_,rfl,rfl,⟨hf⟩⟩
    ·have e1b:((n0:Int)==1)=false:=by simp;omega
     have HTT:As (took j data=if n0=0/\s1=some [] then⟨false,false,[],[],0⟩ else⟨false,false,[],[],3⟩):=⟨by rw[HTG.out,tookG,HST.out.1];simp only[if_neg e1]⟩
     clear HBY
     cases hwh:refr.whole s1 with
     |true=>
      have HW4:=As.mk (fun w2 h=>HWH.out w2 s1 h)
      rw[hwh] at HW4
      have HS2:As (s1=some []):=⟨by simpa [refr.whole] using hwh⟩
      clear hwh
      by_cases e0:n0=0
      ·subst e0
       go_wp2_with (first
        |(go_at_call 35;refine HNM.out.mono ?_;rintro e w2 ⟨rfl,H2⟩;have HW5:=As.mk (HW4.out w2 (by obtain⟨g,r1,r2,_⟩:=H2.out;exact⟨g,r1,r2⟩));clear HNM)
        |(go_at_call 37;refine HW5.out.mono ?_;rintro e w4 ⟨rfl,rfl⟩;clear HW5))
       go_meet
       have hkd:=HKD.out
       obtain⟨_,_,_,k2⟩:=H2.out
       obtain⟨f,hf⟩:=FinSt.nope (j:=j) (data:=data) HC.out HAA.out.1 HAN.out HQ.out.2 HGA.out k2 false (fun _=>by rw[HTT.out];simp[HS2.out]) (fun e=>by cases e) (by omega)
       exact⟨false,f,_,rfl,rfl,⟨hf⟩⟩
      ·have hgt:(1:Int)<(n0:Int):=by omega
       have HE0:=As.mk e0
       go_wp2_with (first
        |(go_at_call 35;refine HNM.out.mono ?_;rintro e w2 ⟨rfl,H2⟩;have HW5:=As.mk (HW4.out w2 (by obtain⟨g,r1,r2,_⟩:=H2.out;exact⟨g,r1,r2⟩));clear HNM)
        |(go_at_call 37;refine HW5.out.mono ?_;rintro e w4 ⟨rfl,rfl⟩;clear HW5))
       go_meet
       have hkd:=HKD.out
       obtain⟨_,_,_,k2⟩:=H2.out
       obtain⟨f,hf⟩:=FinSt.nope (j:=j) (data:=data) HC.out HAA.out.1 HAN.out HQ.out.2 HGA.out k2 true (fun e=>by cases e) (fun _=>by rw[HTT.out,if_neg (fun h=>HE0.out h.1)]) (by omega)
       exact⟨true,f,_,rfl,rfl,⟨hf⟩⟩
     |false=>
      have HW4:=As.mk (fun w2 h=>HWH.out w2 s1 h)
      rw[hwh] at HW4
      have HS2:As (¬s1=some []):=⟨by simpa [refr.whole] using hwh⟩
      clear hwh
      go_wp2_with (first
       |(go_at_call 35;refine HNM.out.mono ?_;rintro e w2 ⟨rfl,H2⟩;have HW5:=As.mk (HW4.out w2 (by obtain⟨g,r1,r2,_⟩:=H2.out;exact⟨g,r1,r2⟩));clear HNM)
       |(go_at_call 37;refine HW5.out.mono ?_;rintro e w4 ⟨rfl,rfl⟩;clear HW5))
      go_meet
      have hkd:=HKD.out
      obtain⟨_,_,_,k2⟩:=H2.out
      obtain⟨f,hf⟩:=FinSt.nope (j:=j) (data:=data) HC.out HAA.out.1 HAN.out HQ.out.2 HGA.out k2 true (fun e=>by cases e) (fun _=>by rw[HTT.out,if_neg (fun h=>HS2.out h.2)]) (by omega)
      exact⟨true,f,_,rfl,rfl,⟨hf⟩⟩
   ·obtain⟨ms,z,hdm⟩:∃a b,dMs data=(a,b):=⟨_,_,rfl⟩
    have hz03:z=0\/z=3:=by
     obtain⟨N,s1,h0⟩:∃a b,stNum (some data)=(a,b):=⟨_,_,rfl⟩
     rw[dMs_eq h0] at hdm
     split at hdm
     ·cases hdm;exact .inl rfl
     ·cases hdm;exact .inr rfl
    obtain⟨nm,hnm⟩:∃nm,ms.length=nm:=⟨_,rfl⟩
    have HTF:As (took j data=if z=0 then⟨false,false,[],ms,0⟩ else⟨false,false,[],[],3⟩):=⟨by
     have hkd:=HKD.out
     rw[took,if_neg (by omega),if_neg (by omega),if_neg (by omega),tookF,hdm]⟩
    have HRM:As (Calls Tryz.prog 131 #[.slice A n c] w1 fun e w2=>∃Am cm,e= .returned (.tuple #[.slice Am nm cm,.int .i64 z])/\(∃v,w2.cell? ⟨gx,i*11+10,none⟩=some v)/\w2.frozen? ⟨gx,i*11+10,none⟩=false/\As (w2.ownsRow 0 73 2 (.slice Am nm cm) nm (mv ms)/\(∀g,(Value.slice Am nm cm).ownBlock=some g->w.heap.size<=g)/\Kp [] w w2)):=⟨by
     obtain⟨A',c',e,g1,g2,r,n0⟩:=own_rd HD.out.1.1
     have e2:=(Value.slice.inj e)
     obtain⟨rfl,_,rfl⟩:=e2
     have hl:=fun g hg=>own_lt HD.out.1.1 g hg
     have hz:=HK1.out.1.size
     refine(ref13.readMs_new A n c data w1 HNL.out (HK1.out.1.rd_new r (by simp)) (by have:=HNL.out;omega) g2 n0 (.inl (fun a ha=>by have:=hl a.block (by rw[ha];rfl);omega)) HD.out.2.2 (by omega)).mono ?_
     rintro e w2 ⟨l2,z2,Am,nm2,cm,h1,rfl,h2,h3,h4,k2⟩
     rw[hdm] at h1
     cases h1
     obtain rfl:nm2=nm:=by omega
     have kk:=HK1.out.1.trans k2 (by simp)
     have hC3:=HC.out.kp (U2:=U) kk (by simp) (fun x hx=> .inl hx)
     obtain⟨_,_,_,_,hf⟩:=hC3.faAt HGA.out HAA.out.1
     obtain⟨g9,hA2⟩:=hC3.ask HAA.out.1
     obtain rfl:g9=gx:=by have:=hA2.hga;rw[HGA.out] at this;exact(Option.some.inj this).symm
     exact⟨Am,cm,rfl,⟨_,hf.q10⟩,hA2.fr _,⟨h3,fun g e=>Nat.le_trans hz (h4 g e),kk⟩⟩⟩
    have HNM:=As.mk hnm
    clear hdm hnm
    rcases hz03 with rfl|rfl
    ·go_wp2_with (go_at_call 131;refine HRM.out.mono ?_;rintro e w2 ⟨Am,cm,rfl,⟨v10,q10⟩,f10,H2⟩;clear HRM)
     go_meet
     obtain⟨f,hf⟩:=FinSt.finds (j:=j) (data:=data) HC.out HAA.out.1 HAN.out HGA.out H2.out.2.2 H2.out.1 HNM.out H2.out.2.1 false (fun _=>by rw[HTF.out];simp) (fun e=>by cases e)
     exact⟨false,f,_,rfl,rfl,⟨hf⟩⟩
    ·go_wp2_with (go_at_call 131;refine HRM.out.mono ?_;rintro e w2 ⟨Am,cm,rfl,⟨v10,q10⟩,f10,H2⟩;clear HRM)
     go_meet
     obtain⟨f,hf⟩:=FinSt.finds (j:=j) (data:=data) HC.out HAA.out.1 HAN.out HGA.out H2.out.2.2 H2.out.1 HNM.out H2.out.2.1 true (fun e=>by cases e) (fun _=>by rw[HTF.out];simp)
     exact⟨true,f,_,rfl,rfl,⟨hf⟩⟩
  case rest=>
   obtain⟨bad,f,wz,rfl,rfl,HF⟩:=hcut
   have z6:=HF.out.q6
   have zf:=HF.out.fr (i*11+6)
   cases bad with
   |true=>
    have HE:As (answ s i a j data=endErr s 3):=⟨by rw[answ,HF.out.no rfl,if_pos (by decide)]⟩
    clear z6 zf
    go_wp2_with (go_at_call 98;refine(HEN.out wz 3 HF.out.kp).mono ?_;rintro e w3 ⟨rfl,HR⟩;have HR:=As.mk HR)
    go_end0
    rw[HE.out]
    exact⟨rfl,HR.out⟩
   |false=>
    obtain⟨F,hFA⟩:=HF.out.set HAA.out.2.1 HAA.out.2.2.1 HAA.out.1 HGA.out HC.out
    obtain⟨az,haz⟩:∃az,s.asks.set i {a with answered:=true,ms:=(took j data).ms}=az:=⟨_,rfl⟩
    obtain⟨nA,hnA⟩:∃nA,s.asks.length=nA:=⟨_,rfl⟩
    obtain⟨w5,hw5⟩:∃w5,w5=wz.setCell ⟨gx,i*11+6,none⟩ (.bool true):=⟨_,rfl⟩
    have hS9:=HSUM.out
    have he0:(took j data).err=0:=by rw[HF.out.ok rfl]
    have HAZ:As (answ s i a j data=if az.all (·.answered)=true then endJob s ⟨s.ended,0,(took j data).was,(took j data).has,(took j data).text,sortM (az.flatMap (·.ms))⟩ else {s with asks:=az}):=⟨by rw[answ,if_neg (by rw[he0];simp),haz]⟩
    rw[haz] at hFA hS9
    rw[hnA,<-hw5] at hFA
    obtain⟨cA,c7⟩:=hFA.c7
    have hn8:nA<=8:=by rw[<-hnA];exact HAA.out.2.2.2.few
    have hpos:=hFA.pos
    have HFA:=As.mk hFA
    have HW5:=As.mk hw5
    have HS9:=As.mk hS9
    clear hFA haz hnA hw5 hS9 he0
    go_upto_region 24 with fail
    rw[<-HW5.out]
    clear z6 zf
    go_loop [15] (fun v=>∃q:Nat,v= .int .i64 (q:Int)/\q<=nA/\As (∀p x,p<q->az[p]?=some x->x.answered=true)) (fun v=>nA-(intOf v).toNat)
    case atStart=>exact⟨0,rfl,by omega,⟨fun p x hp=>by omega⟩⟩
    case round=>
     obtain⟨q,rfl,hq,HI⟩:=hrel
     by_cases hlt:q<nA
     ·have hql:q<az.length:=by rw[HFA.out.len];exact hlt
      obtain⟨x,hx⟩:∃x,az[q]?=some x:=⟨_,List.getElem?_eq_getElem hql⟩
      have q6:=HFA.out.q6 q x hx
      have j0:(0:Int)<=(q:Int):=by omega
      have j1:(q:Int)<(nA:Int):=by omega
      have HX:=As.mk hx
      clear hx hql
      cases hxa:x.answered with
      |false=>
       rw[hxa] at q6
       have hall:az.all (·.answered)=false:=by
        rw[List.all_eq_false]
        exact⟨x,List.mem_of_getElem? HX.out,by rw[hxa];simp⟩
       have HR:As (REnds U L cf (answ s i a j data) w (.returned (.tuple #[])) w5):=⟨by
        rw[HAZ.out,if_neg (by rw[hall];simp)]
        exact⟨rfl,L,HFA.out.go hall,RGrew.refl _ _,HFA.out.kp.mono (fun x hx=> .inl (by
         have e:L.ga=some x:=by simpa using hx
         exact RLay.mem.2 (.inr (.inr (.inr (.inl e))))))⟩⟩
       clear hxa hall HI
       go_wp2_with fail
       go_end0
       exact HR.out
      |true=>
       rw[hxa] at q6
       have HI2:As (∀p y,p<q+1->az[p]?=some y->y.answered=true):=⟨fun p y hp hy=>by
        by_cases e:p=q
        ·subst e
         rw[HX.out] at hy
         cases hy
         exact hxa
        ·exact HI.out p y (by omega) hy⟩
       clear hxa HI
       go_wp2_with fail
       go_round
       case rel=>exact⟨q+1,by go_num,by omega,HI2⟩
       case measure=>simp[intOf];omega
     ·have j1:¬(q:Int)<(nA:Int):=by omega
      have HALL:As (az.all (·.answered)=true):=⟨by
       rw[List.all_eq_true]
       intro x hx
       obtain⟨p,hp,rfl⟩:=List.getElem_of_mem hx
       exact HI.out p _ (by have:=HFA.out.len;omega) (List.getElem?_eq_getElem hp)⟩
      have HL0:As (AnL (L.all++U) w5 w5.heap.size F 0 false false none 0 0 none 0 0 (w5.alloc (.cells #[.int .i64 0,.int .i64 0,.bool false,.bool false,.slice none 0 0,.slice none 0 0] 138))):=⟨heap_alloc_new w5 _,(Kp.refl [] w5).alloc _,fun h=>by omega,by rw[show sortM (upTo F 0)=[] by simp[sortM,upTo]];exact MSl.nil _ _⟩
      obtain⟨O,hO⟩:∃O,w5.heap.size=O:=⟨_,rfl⟩
      rw[hO] at HL0
      have HO:=As.mk hO
      have lb5:L.b<O:=by rw[<-hO];exact World.block_lt_of_cell? w5 _ c7
      have lg5:gx<O:=by
       rw[<-hO]
       have:=HFA.out.kp.size
       omega
      clear HI
      go_wp2_with fail
      clear c7
      go_loopw [17] (fun v17 wr=>∃(p:Nat) (was has:Bool) (At:Option Addr) (nt ct:Nat) (Am:Option Addr) (nm cm:Nat),v17= .int .i64 (p:Int)/\p<=nA/\As (AnL (L.all++U) w5 O F p was has At nt ct Am nm cm wr)) (fun v _=>nA-(intOf v).toNat)
      case atStart=>exact⟨0,false,false,none,0,0,none,0,0,rfl,by omega,HL0⟩
      case round=>
       clear HL0
       obtain⟨p,was,has,At,nt,ct,Am,nm,cm,rfl,hp,HL⟩:=hrel
       obtain⟨cA,c7⟩:=HFA.out.c7
       have c7:=HL.out.kp.cell c7 (by simp)
       by_cases hlp:p<nA
       ·have l0:(0:Int)<=(p:Int):=by omega
        have l1:(p:Int)<(nA:Int):=by omega
        have hfp:=HFA.out.fa p hlp
        obtain⟨fW,fH,fA,fN,fC,gA,gN,gC,fT,fM⟩:∃a b c d e g h k l m,F p=⟨a,b,c,d,e,g,h,k,l,m⟩:=⟨_,_,_,_,_,_,_,_,_,_,rfl⟩
        obtain⟨gM,hFp⟩:=fM
        rw[hFp] at hfp
        have q7:=HL.out.kp.cell hfp.q7 (by simp)
        have q8:=HL.out.kp.cell hfp.q8 (by simp)
        have q9:=HL.out.kp.cell hfp.q9 (by simp)
        have q10:=HL.out.kp.cell hfp.q10 (by simp)
        have hLO:O<wr.heap.size:=lt_of_block HL.out.hd
        have hOs:=HL.out.kp.size
        have KX:As (∀wX,Kp [O] wr wX->wX.cell? ⟨L.b,7,none⟩=some (.slice (some ⟨gx,0,none⟩) nA cA)/\wX.cell? ⟨gx,p*11+7,none⟩=some (.bool fW)/\wX.cell? ⟨gx,p*11+8,none⟩=some (.bool fH)/\wX.cell? ⟨gx,p*11+9,none⟩=some (.slice fA fN fC)/\wX.cell? ⟨gx,p*11+10,none⟩=some (.slice gA gN gC)):=⟨fun wX kX=>
         ⟨kX.cell c7 (by simp;omega),kX.cell q7 (by simp;omega),kX.cell q8 (by simp;omega),kX.cell q9 (by simp;omega),kX.cell q10 (by simp;omega)⟩⟩
        have o2:=bkc HL.out.hd 2 rfl
        have o3:=bkc HL.out.hd 3 rfl
        have o4:=bkc HL.out.hd 4 rfl
        have p2:=blk_free HL.out.hd 2
        have p3:=blk_free HL.out.hd 3
        have p4:=blk_free HL.out.hd 4
        have HFP:=As.mk (And.intro hFp hfp)
        clear hFp hfp q7 q8 q9 q10
        obtain⟨wo,rfl⟩:∃wo,wo=wr:=⟨_,rfl⟩
        go_upto_region 31 with fail
        go_region_held3 (fun wX=>wX.cell? ⟨L.b,7,none⟩=some (.slice (some ⟨gx,0,none⟩) nA cA)/\wX.cell? ⟨gx,p*11+7,none⟩=some (.bool fW)/\wX.cell? ⟨gx,p*11+8,none⟩=some (.bool fH)/\wX.cell? ⟨gx,p*11+9,none⟩=some (.slice fA fN fC)/\wX.cell? ⟨gx,p*11+10,none⟩=some (.slice gA gN gC))
         (first|exact KX.out _ (Kp.refl _ _)|exact KX.out _ (Kp.refl _ _).drew|exact KX.out _ ((Kp.refl _ _).drewN _)|exact KX.out _ ((Kp.refl _ _).setCell (.inl (by simp)) _)|exact KX.out _ ((Kp.refl _ _).drew.setCell (.inl (by simp)) _)|exact KX.out _ (((Kp.refl _ _).setCell (.inl (by simp)) _).drew)|exact KX.out _ (((Kp.refl _ _).setCell (.inl (by simp)) _).setCell (.inl (by simp)) _)|exact KX.out _ ((((Kp.refl _ _).setCell (.inl (by simp)) _).setCell (.inl (by simp)) _).drew)|exact KX.out _ ((((Kp.refl _ _).setCell (.inl (by simp)) _).setCell (.inl (by simp)) _).setCell (.inl (by simp)) _)|exact KX.out _ (((((Kp.refl _ _).setCell (.inl (by simp)) _).setCell (.inl (by simp)) _).setCell (.inl (by simp)) _).drew)) (fail)
        obtain⟨W6,hW6⟩:∃W6,(((wo.setCell ⟨O,2,none⟩ (.bool fW)).setCell ⟨O,3,none⟩ (.bool fH)).setCell ⟨O,4,none⟩ (.slice fA fN fC)).drew=W6:=⟨_,rfl⟩
        rw[hW6]
        have k6:Kp [O] wo W6:=by rw[<-hW6];exact((((Kp.refl _ wo).setCell (.inl (by simp)) _).setCell (.inl (by simp)) _).setCell (.inl (by simp)) _).drew
        have hd6:W6.heap[O]?=some (.cells #[.int .i64 0,.int .i64 0,.bool fW,.bool fH,.slice fA fN fC,.slice Am nm cm] 138 (0,0)):=by
         rw[<-hW6]
         exact heap_setCell_same _ O 4 _ _ _ (heap_setCell_same _ O 3 _ _ _ (heap_setCell_same _ O 2 _ _ _ HL.out.hd))
        have o5:=bkc hd6 5 rfl
        have f5:=blk_free hd6 5
        obtain⟨r7,_,_,_,r10⟩:=KX.out W6 k6
        have HMG:As (∀wX,Kp [] W6 wX->Calls Tryz.prog 132 #[.slice Am nm cm,.slice gA gN gC] wX fun e w'=>∃A2 n2 c2,e= .returned (.slice A2 n2 c2)/\w'.cell? ⟨O,5,none⟩=some (.slice Am nm cm)/\w'.frozen? ⟨O,5,none⟩=false/\
         As (AnL (L.all++U) w5 O F (p+1) fW fH fA fN fC A2 n2 c2 (w'.setCell ⟨O,5,none⟩ (.slice A2 n2 c2)))):=⟨fun wX kX=>by
         have hlt:=HC.out.lt
         have hFp:=HFP.out.1
         have hfm:=HFP.out.2.mx
         have k56:Kp [] w5 W6:=HL.out.kp.trans k6 (fun x hx=> .inr (by have:=HO.out;simp at hx;omega))
         have kOX:Kp [O] wo wX:=k6.trans kX (by simp)
         obtain⟨A1,c1,e1,r1,_,_,n1⟩:=HL.out.mx
         have e1':=Value.slice.inj e1
         obtain⟨rfl,hl1,rfl⟩:=e1'
         obtain⟨A3,c3,e3,r3,_,_,n3⟩:=hfm
         have e3':=Value.slice.inj e3
         obtain⟨rfl,hl3,rfl⟩:=e3'
         have hl3:gN=gM.length:=hl3
         have hsum:=HS9.out
         have hms:upTo F nA=az.flatMap (·.ms):=HFA.out.ms
         have hle:=upTo_len (F:=F) (q:=p+1) (n:=nA) hlp
         rw[upTo_succ,List.length_append,hms,show(F p).ms=gM by rw[hFp]] at hle
         rw[sortM_len] at hl1
         have kw5:=HFA.out.kp.size
         have hO9:=HO.out
         have hVO:∀x∈[O],x∈O::(L.all++U)\/wo.heap.size<=x:=fun x hx=> .inl (by simp at hx;simp[hx])
         have hrd1:Rd wX Am (mv (sortM (upTo F p))):=((r1.kp k6 hVO).kp kX (by simp)).rd
         have hrd3:Rd wX gA (mv gM):=((((r3.kp2 (S2:=O::(L.all++U)) (Kp.refl [] w5) (by simp) (fun x hx=>by
          rcases List.mem_cons.1 hx with e|e
          ·exact .inr (by omega)
          ·exact .inl e)).kp HL.out.kp (by simp)).kp k6 hVO).kp kX (by simp)).rd
         refine(merged_any Am gA nm gN cm _ (sortM (upTo F p)) gM wX (by rw[sortM_len];exact hl1.symm) hl3.symm hrd1 hrd3 n1 n3 (by omega)).mono ?_
         rintro e w' ⟨v,rfl,hM⟩
         obtain⟨A2,c2,rfl,_⟩:=own_rd hM.own
         have hd':=hM.kp.blk (kX.blk hd6 (by simp)) (by simp)
         have kS:Kp [O] w' (w'.setCell ⟨O,5,none⟩ (.slice A2 (nm+gN) c2)):=(Kp.refl _ w').setCell (.inl (by simp)) _
         have hsX:=kX.size
         have hs6:=k6.size
         have hLO:O<wo.heap.size:=lt_of_block HL.out.hd
         refine⟨A2,_,c2,rfl,bkc hd' 5 rfl,blk_free hd' 5,⟨heap_setCell_same w' O 5 _ _ _ hd',((k56.trans kX (by simp)).trans hM.kp (by simp)).trans kS (fun x hx=> .inr (by simp at hx;omega)),fun _=> ?_, ?_⟩⟩
         ·rw[Nat.add_sub_cancel,hFp]
          exact⟨rfl,rfl,rfl,rfl,rfl⟩
         ·have hm:MSl (O::(L.all++U)) w' (.slice A2 (nm+gN) c2) (sortM (upTo F (p+1))):=by
           have e:sortM (sortM (upTo F p)++gM)=sortM (upTo F (p+1)):=by rw[sortM_app,upTo_succ,show(F p).ms=gM by rw[hFp]]
           rw[e] at hM
           refine MSl.own (by rw[hM.len];exact hM.own) (fun g eg hm=> ?_)
           have:=hM.lo g eg
           rcases List.mem_cons.1 hm with e|e
           ·omega
           ·have:=hlt g e;omega
          exact hm.kp kS (fun x hx=> .inl (by simp at hx;simp[hx])) (fun x hx=> .inl hx)⟩
        clear KX o2 o3 o4 p2 p3 p4 hW6 k6 hd6
        go_upto_region 32 with fail
        go_region_law (go_simp;go_at_call 132;refine(HMG.out _ (by first|exact Kp.refl _ _|exact(Kp.refl [] _).drew|exact(Kp.refl [] W6).drewN _)).mono ?_;rintro e w7 ⟨A2,n2,c2,rfl,o5,f5,HZ⟩)
        all_goals
         clear HMG
         go_wp2_with fail
         go_roundw
         case rel=>exact⟨p+1,fW,fH,fA,fN,fC,A2,n2,c2,by go_num,by omega,HZ⟩
         case measure=>simp[intOf];omega
       ·obtain rfl:p=nA:=by omega
        have l1:¬(p:Int)<(p:Int):=by omega
        have kT:Kp L.ga.toList w wr:=HFA.out.kp.trans HL.out.kp (by simp)
        obtain⟨e1,e2,e3,e4,e5⟩:=HL.out.val hpos
        have hfa:=HFA.out.fa (p-1) (by omega)
        have hO9:=HO.out
        have HTX:As (BSl (L.all++U) wr (.slice At nt ct) (took j data).text):=⟨by
         rw[e3,e4,e5,<-HFA.out.was.2.2]
         exact hfa.tx.kp HL.out.kp (by simp) (fun x hx=> .inl hx)⟩
        have HMX:As (MSl (L.all++U) wr (.slice Am nm cm) (sortM (az.flatMap (·.ms)))):=⟨by
         rw[<-HFA.out.ms]
         exact HL.out.mx.kp (Kp.refl [] wr) (by simp) (fun x hx=> .inl (List.mem_cons_of_mem _ hx))⟩
        have HED2:=As.mk (HED.out wr was has At nt ct Am nm cm _ _ kT HTX.out HMX.out)
        have HE:As (answ s i a j data=endJob s ⟨s.ended,0,was,has,(took j data).text,sortM (az.flatMap (·.ms))⟩):=⟨by
         rw[HAZ.out,if_pos HALL.out,e1,e2,HFA.out.was.1,HFA.out.was.2.1]⟩
        have o0:=bkc HL.out.hd 0 rfl
        have o1:=bkc HL.out.hd 1 rfl
        have o2:=bkc HL.out.hd 2 rfl
        have o3:=bkc HL.out.hd 3 rfl
        have o4:=bkc HL.out.hd 4 rfl
        have o5:=bkc HL.out.hd 5 rfl
        clear e1 e2 e3 e4 e5 hfa kT HED HEN
        go_wp2_with (go_at_call 98;refine HED2.out.mono ?_;rintro e w9 ⟨rfl,HR⟩;have HR:=As.mk HR)
        go_end0
        rw[HE.out]
        exact⟨rfl,HR.out⟩
end Go.Proofs.YtdiljpdohmeceaaGreat.co.cr
