/- Words and walks that this claim rests on: proved lemmas alone. -/
import Derived.Test.YtdiljpdohmeceaaGreatZ17
set_option maxHeartbeats 16000000
set_option maxRecDepth 100000
namespace Go.Proofs.YtdiljpdohmeceaaGreat.co.cr
open Go.RowKit H O opk frame wir
theorem info_rres:(Tryz.prog.info? 138).map (fun i=>(i.zero,i.size,i.bytes))=some (some (.agg #[.int .i64 0,.int .i64 0,.bool false,.bool false,.slice none 0 0,.slice none 0 0]),6,72):=by kernel_rfl
def REnds(U:List Nat)(L:RLay)(cf:Cfg)(s':Cs)(w:World)(e:Ending)(w':World):Prop:=e= .returned (.tuple #[])/\∃L',RsSt U w' L' cf s'/\RGrew w L L'/\Kp L.all w w'
theorem RsP.fin{U:List Nat}{w0 w w3 w7 w9:World}{L:RLay}{cf:Cfg}{s:Cs}{κ:Nat->Nat}{VS VW VL VA VD v7 tv mv':Value}{obj:Obj}(h:RsP U w0 L cf s κ VS VW VL VA VD)(k0:Kp L.ga.toList w0 w){j:Job}{jr:List Job}(hj:s.jobs=j::jr){er:Int}{was has:Bool}{text:List Int}{ms:List (ByteArray×Int)}
 (ht:BSl (L.all++U) w tv text) (hm:MSl (L.all++U) w mv' ms) (k3:Kp [] w w3) {vs:List Value} (hvs:RsOk (L.all++U) w0 s.done vs) (hgd:VD.ownBlock=L.gd)
 (o7:w7.ownsRow 0 138 6 v7 (s.done.length+1) (vs++[.int .i64 (s.ended:Int),.int .i64 er,.bool was,.bool has,tv,mv'])) (k7:Kp VD.ownBlock.toList (w3.alloc obj) w7) (a7:At (w3.heap.size+1) VD.ownBlock v7.ownBlock)
 (h9:w9=((w7.setCell ⟨L.b,9,none⟩ v7).setCell ⟨L.b,6,none⟩ (.int .i64 ((s.ended:Int)+1))).setCell ⟨L.b,7,none⟩ (.slice none 0 0)):
 REnds U L cf (endJob s ⟨s.ended,er,was,has,text,ms⟩) w0 (.returned (.tuple #[])) w9:=by
 subst h9
 have hbl:=h.sep.b
 have hlt:∀g,VD.ownBlock=some g->κ g=5/\g<w0.heap.size:=fun g e=>h.sep.gd g (by rw[<-hgd];exact e)
 have s3:=k3.size
 have s0:=k0.size
 have s7:=k7.size
 simp only[World.size_alloc] at s7
 have nga:L.b∉L.ga.toList:=fun e=>by
  have:=h.sep.ga L.b (by simpa using e)
  omega
 have ngd:L.b∉VD.ownBlock.toList:=fun e=>by
  have:=hlt L.b (by simpa using e)
  omega
 have kA:Kp VD.ownBlock.toList w3 w7:=((Kp.refl VD.ownBlock.toList w3).alloc _).trans k7 (fun x hx=> .inl hx)
 have hb7:=kA.blk (k3.blk (k0.blk h.hd nga) (by simp)) ngd
 have e1:=heap_setCell_same w7 L.b 9 _ _ v7 hb7
 have e2:=heap_setCell_same _ L.b 6 _ _ (.int .i64 ((s.ended:Int)+1)) e1
 have e3:=heap_setCell_same _ L.b 7 _ _ (.slice none 0 0) e2
 have kS:Kp [L.b] w7 (((w7.setCell ⟨L.b,9,none⟩ v7).setCell ⟨L.b,6,none⟩ (.int .i64 ((s.ended:Int)+1))).setCell ⟨L.b,7,none⟩ (.slice none 0 0)):=(((Kp.refl [L.b] w7).setCell (.inl (by simp)) _).setCell (.inl (by simp)) _).setCell (.inl (by simp)) _
 obtain⟨w9,hw9⟩:∃w9,((w7.setCell ⟨L.b,9,none⟩ v7).setCell ⟨L.b,6,none⟩ (.int .i64 ((s.ended:Int)+1))).setCell ⟨L.b,7,none⟩ (.slice none 0 0)=w9:=⟨_,rfl⟩
 rw[hw9] at e3 kS⊢
 have kB:Kp (L.b::VD.ownBlock.toList) w w9:=((k3.mono (by simp)).trans (kA.mono (T:=L.b::VD.ownBlock.toList) (fun x hx=> .inl (List.mem_cons_of_mem _ hx))) (fun x hx=> .inl hx)).trans kS (fun x hx=> .inl (by simp at hx;simp[hx]))
 have kT:Kp (L.b::(VD.ownBlock.toList++L.ga.toList)) w0 w9:=(k0.mono (T:=L.b::(VD.ownBlock.toList++L.ga.toList)) (fun x hx=> .inl (by simp only[List.mem_cons,List.mem_append];exact .inr (.inr hx)))).trans kB (fun x hx=> .inl (by
  rcases List.mem_cons.1 hx with e|e
  ·simp[e]
  ·simp only[List.mem_cons,List.mem_append];exact .inr (.inl e)))
 have hVm:∀x∈L.b::(VD.ownBlock.toList++L.ga.toList),x∈L.all:=fun x hx=>by
  simp only[List.mem_cons,List.mem_append,Option.mem_toList] at hx
  rcases hx with e|e|e
  ·exact RLay.mem.2 (.inl e)
  ·exact RLay.mem.2 (.inr (.inr (.inr (.inr (by rw[<-hgd];exact e)))))
  ·exact RLay.mem.2 (.inr (.inr (.inr (.inl e))))
 have hV:∀x∈L.b::(VD.ownBlock.toList++L.ga.toList),x∈L.all++U\/w0.heap.size<=x:=fun x hx=> .inl (List.mem_append.2 (.inl (hVm x hx)))
 have s9:w7.heap.size<=w9.heap.size:=kS.size
 have u:RUpd L {L with ga:=none,gd:=v7.ownBlock} w0 w9:=by
  refine⟨rfl,rfl,fun x e=> .inl e,fun x e=>(by cases e),fun x e=> ?_,fun x hx=>⟨fun e=>⟨fun e2=>(by cases e2),fun _=>(by have:=h.sep.gL x e;omega)⟩,fun e=>(by cases e)⟩⟩
  have e:v7.ownBlock=some x:=e
  have hl:=own_lt o7 x e
  rcases a7 with e2|⟨y,e2,hy⟩
  ·rw[e2] at e
   exact .inl (by rw[<-hgd];exact e)
  ·rw[e2] at e
   cases e
   exact .inr ⟨by omega,by omega⟩
 have hVB:∀x∈L.b::VD.ownBlock.toList,x∈L.all++U\/w.heap.size<=x:=fun x hx=> .inl (List.mem_append.2 (.inl (hVm x (by
  rcases List.mem_cons.1 hx with e|e
  ·simp[e]
  ·simp only[List.mem_cons,List.mem_append];exact .inr (.inl e)))))
 have hS9:∀x∈({L with ga:=none,gd:=v7.ownBlock}:RLay).all++U,x∈L.all++U\/w.heap.size<=x:=fun x hx=>by
  rcases List.mem_append.1 hx with e|e
  ·rcases RLay.mem.1 e with e|e|e|e|e
   ·exact .inl (List.mem_append.2 (.inl (RLay.mem.2 (.inl e))))
   ·exact .inl (List.mem_append.2 (.inl (RLay.mem.2 (.inr (.inl e)))))
   ·exact .inl (List.mem_append.2 (.inl (RLay.mem.2 (.inr (.inr (.inl e))))))
   ·cases e
   ·have e:v7.ownBlock=some x:=e
    rcases a7 with e2|⟨y,e2,hy⟩
    ·rw[e2] at e
     exact .inl (List.mem_append.2 (.inl (RLay.mem.2 (.inr (.inr (.inr (.inr (by rw[<-hgd];exact e))))))))
    ·rw[e2] at e
     cases e
     exact .inr (by omega)
  ·exact .inl (List.mem_append.2 (.inr e))
 have ne:∀x c,κ x=c->c≠1->c≠4->c≠5->x∉L.b::(VD.ownBlock.toList++L.ga.toList):=fun x c hx h1 h4 h5 hm=>by
  simp only[List.mem_cons,List.mem_append,Option.mem_toList] at hm
  rcases hm with e|e|e
  ·subst e;omega
  ·have:=hlt x e;omega
  ·have:=h.sep.ga x e;omega
 refine⟨rfl,{L with ga:=none,gd:=v7.ownBlock},h.upd kT hV (ne _ 2 h.sep.gw.1 (by decide) (by decide) (by decide)) u e3 rfl ?_ ⟨[],World.ownsRow_nil _ 0 _ 11,rfl,rfl⟩ ?_,u.grew,kT.mono (fun x hx=> .inl (hVm x hx))⟩
 ·obtain⟨past,us,j1,j2,j3,j4⟩:=h.jq
  refine⟨past++[j],us,by rw[List.length_append,j1];rfl, ?_, ?_,j4⟩
  ·have e:(endJob s ⟨s.ended,er,was,has,text,ms⟩).ended+(endJob s ⟨s.ended,er,was,has,text,ms⟩).jobs.length=s.ended+s.jobs.length:=by
    show s.ended+1+s.jobs.tail.length=_
    rw[hj]
    simp
    omega
   rw[e]
   exact kT.own j2 (fun x e=>ne _ _ (h.sep.gL x (by rw[<-j4];exact e)).1 (by decide) (by decide) (by decide))
  ·have e:past++[j]++(endJob s ⟨s.ended,er,was,has,text,ms⟩).jobs=past++s.jobs:=by
    show past++[j]++s.jobs.tail=_
    rw[hj]
    simp
   rw[e]
   exact j3.kp kT hV u.sub
 ·refine⟨_, ?_,rfl,RsOk.snoc (r:=⟨s.ended,er,was,has,text,ms⟩) ⟨tv,mv',rfl, ?_, ?_⟩ (hvs.kp kT hV u.sub)⟩
  ·have e:(endJob s ⟨s.ended,er,was,has,text,ms⟩).done.length=s.done.length+1:=by simp[endJob]
   rw[e]
   refine kS.own o7 (fun x e hm=> ?_)
   simp at hm
   subst hm
   rcases a7 with e2|⟨y,e2,hy⟩
   ·rw[e2] at e
    exact ngd (by simpa using e)
   ·rw[e2] at e
    cases e
    omega
  ·exact ht.kp kB hVB hS9
  ·exact hm.kp kB hVB hS9
theorem ends_any(U:List Nat)(w0 w:World)(L:RLay)(cf:Cfg)(s:Cs)(κ:Nat->Nat)(VS VW VL VA VD:Value)(h:RsP U w0 L cf s κ VS VW VL VA VD)(k0:Kp L.ga.toList w0 w)(j:Job)(jr:List Job)(hj:s.jobs=j::jr)(jb er:Int)(was has:Bool)(At Am:Option Addr)(nt ct nm cm:Nat)(text:List Int)(ms:List (ByteArray×Int))
 (ht:BSl (L.all++U) w (.slice At nt ct) text) (hm:MSl (L.all++U) w (.slice Am nm cm) ms) (hd9:s.done.length<=1000000) (he9:s.ended<=1000000):
 Calls Tryz.prog 98 #[.pointer (some ⟨L.b,0,none⟩),.agg #[.int .i64 jb,.int .i64 er,.bool was,.bool has,.slice At nt ct,.slice Am nm cm]] w (REnds U L cf (endJob s ⟨s.ended,er,was,has,text,ms⟩) w0):=by
 obtain⟨vs,o1,hgd,hvs⟩:=id h.dn
 obtain⟨AD,cD,rfl,_⟩:=own_rd o1
 obtain⟨t,ht'⟩:∃t,s.done.length=t:=⟨_,rfl⟩
 have nga:L.b∉L.ga.toList:=fun e=>by
  have:=h.sep.ga L.b (by simpa using e)
  have:=h.sep.b
  omega
 have hb0:=k0.blk h.hd nga
 rw[ht'] at hb0 o1 hd9
 have oW:w.ownsRow 0 138 6 (.slice AD t cD) t vs:=k0.own o1 (fun x e hm=>by
  have h1:=h.sep.ga x (by simpa using hm)
  have h2:=h.sep.gd x (by rw[<-hgd,ht'];exact e)
  omega)
 have b6:=bkc hb0 6 rfl
 have b9:=bkc hb0 9 rfl
 have lb:=lt_of_block hb0
 have nb:¬L.b=w.heap.size:=by omega
 have HF:As (∀w3 v7 w7 obj,Kp [] w w3->w7.ownsRow 0 138 6 v7 (t+1) (vs++[.int .i64 (s.ended:Int),.int .i64 er,.bool was,.bool has,.slice At nt ct,.slice Am nm cm])->Kp (Value.slice AD t cD).ownBlock.toList (w3.alloc obj) w7->H.At (w3.heap.size+1) (Value.slice AD t cD).ownBlock v7.ownBlock->
  w7.cell? ⟨L.b,9,none⟩=some (.slice AD t cD)/\w7.frozen? ⟨L.b,9,none⟩=false/\w7.cell? ⟨L.b,6,none⟩=some (.int .i64 (s.ended:Int))/\w7.frozen? ⟨L.b,6,none⟩=false/\(∃vA,w7.cell? ⟨L.b,7,none⟩=some vA)/\w7.frozen? ⟨L.b,7,none⟩=false/\
  As (REnds U L cf (endJob s ⟨s.ended,er,was,has,text,ms⟩) w0 (.returned (.tuple #[])) (((w7.setCell ⟨L.b,9,none⟩ v7).setCell ⟨L.b,6,none⟩ (.int .i64 ((s.ended:Int)+1))).setCell ⟨L.b,7,none⟩ (.slice none 0 0)))):=⟨fun w3 v7 w7 obj k3 o7 k7 a7=>by
  have ngd:L.b∉(Value.slice AD t cD).ownBlock.toList:=fun e=>by
   have h2:=h.sep.gd L.b (by rw[<-hgd,ht'];simpa using e)
   have:=h.sep.b
   omega
  have kA:Kp (Value.slice AD t cD).ownBlock.toList w3 w7:=((Kp.refl _ w3).alloc _).trans k7 (fun x hx=> .inl hx)
  have hb7:=kA.blk (k3.blk hb0 (by simp)) ngd
  refine⟨bkc hb7 9 rfl,blk_free hb7 9,bkc hb7 6 rfl,blk_free hb7 6,⟨_,bkc hb7 7 rfl⟩,blk_free hb7 7,⟨?_⟩⟩
  subst ht'
  exact h.fin k0 hj ht hm k3 hvs hgd o7 k7 a7 rfl⟩
 have HJ:As (∀(w3:World),Kp [] w w3->w3.ownsRow 0 138 6 (.slice AD t cD) t vs):=⟨fun w3 k3=>k3.own oW (by simp)⟩
 clear h hb0 o1 oW hj ht hm hvs hgd ht' k0 nga
 go_enter Tryz.func98,Tryz.ntmps98
 go_upto_region 2 with fail
 obtain⟨W2,hW2⟩:∃W2,w.alloc (.cells #[.int .i64 (s.ended:Int),.int .i64 er,.bool was,.bool has,.slice At nt ct,.slice Am nm cm] 138)=W2:=⟨_,rfl⟩
 rw[hW2]
 have k2:Kp [] w W2:=by rw[<-hW2];exact(Kp.refl [] w).alloc _
 have hq:W2.heap[w.heap.size]?=some (.cells #[.int .i64 (s.ended:Int),.int .i64 er,.bool was,.bool has,.slice At nt ct,.slice Am nm cm] 138 (0,0)):=by rw[<-hW2];exact heap_alloc_new w _
 have q0:=bkc hq 0 rfl
 have q1:=bkc hq 1 rfl
 have q2:=bkc hq 2 rfl
 have q3:=bkc hq 3 rfl
 have q4:=bkc hq 4 rfl
 have q5:=bkc hq 5 rfl
 have c9:=k2.cell b9 (by simp)
 have l9:=World.block_lt_of_cell? W2 _ c9
 have n9:¬L.b=W2.heap.size:=Nat.ne_of_lt l9
 have lq:=World.block_lt_of_cell? W2 _ q0
 have nq:¬w.heap.size=W2.heap.size:=Nat.ne_of_lt lq
 have HFIN:As (∀q v7 w7,w7.ownsRow 0 138 6 v7 (t+1) (vs++[.int .i64 (s.ended:Int),.int .i64 er,.bool was,.bool has,.slice At nt ct,.slice Am nm cm])->Kp (Value.slice AD t cD).ownBlock.toList ((W2.drewN q).alloc (.cells #[.int .i64 (s.ended:Int),.int .i64 er,.bool was,.bool has,.slice At nt ct,.slice Am nm cm] 138)) w7->H.At (W2.heap.size+1) (Value.slice AD t cD).ownBlock v7.ownBlock->_):=⟨fun q v7 w7 o7 k7 a7=>HF.out _ v7 w7 _ (k2.drewN q) o7 k7 (by simpa using a7)⟩
 have HOW:As (∀q,((W2.drewN q).alloc (.cells #[.int .i64 (s.ended:Int),.int .i64 er,.bool was,.bool has,.slice At nt ct,.slice Am nm cm] 138)).ownsRow 0 138 6 (.slice AD t cD) t vs):=⟨fun q=>(HJ.out _ (k2.drewN q)).alloc _⟩
 clear hW2 hq b6 b9 nb lb HF HJ
 go_region_law (refine step_app rfl (.tmp 13) (.tmp 15) 69 rfl 138 (.agg #[.int .i64 0,.int .i64 0,.bool false,.bool false,.slice none 0 0,.slice none 0 0]) 6 72 Tryz.underlying69 info_rres rfl (by decide) (.slice AD t cD) t vs rfl (HOW.out _) (some ⟨W2.heap.size,0,none⟩) 1 1 [.int .i64 (s.ended:Int),.int .i64 er,.bool was,.bool has,.slice At nt ct,.slice Am nm cm] rfl rfl (rd_new _ [.int .i64 (s.ended:Int),.int .i64 er,.bool was,.bool has,.slice At nt ct,.slice Am nm cm] 138) (by simp) (by simp[Value.oneCell']) (by omega) (by omega) ?_;intro v7 w7 o7 k7 a7;obtain⟨A7,c7,rfl,_⟩:=own_rd o7;obtain⟨y0,y1,y2,y3,⟨vA,y4⟩,y5,HZ⟩:=HFIN.out _ _ w7 o7 k7 (by simpa using a7);clear o7 k7 a7)
 all_goals
  go_wp2_with fail
  go_end0
  exact HZ.out
theorem RsSt.head{U:List Nat}{w:World}{L:RLay}{cf:Cfg}{s:Cs}(h:RsSt U w L cf s):w.cell? ⟨L.b,0,none⟩=some (.int .i64 (cf.id:Int))/\w.cell? ⟨L.b,1,none⟩=some (.int .i64 (cf.pat:Int))/\w.cell? ⟨L.b,2,none⟩=some (.int .i64 (cf.tries:Int))/\w.cell? ⟨L.b,6,none⟩=some (.int .i64 (s.ended:Int))/\L.b<w.heap.size/\(∀j,w.frozen? ⟨L.b,j,none⟩=false)/\
 ∃AA cA,w.cell? ⟨L.b,7,none⟩=some (.slice AA s.asks.length cA):=by
 obtain⟨κ,VS,VW,VL,VA,VD,h⟩:=h
 obtain⟨vs,o,_,_⟩:=id h.aq
 obtain⟨AA,cA,rfl,_⟩:=own_rd o
 exact⟨bkc h.hd 0 rfl,bkc h.hd 1 rfl,bkc h.hd 2 rfl,bkc h.hd 6 rfl,lt_of_block h.hd,blk_free h.hd,AA,cA,bkc h.hd 7 rfl⟩
theorem RsSt.drewN{U:List Nat}{w:World}{L:RLay}{cf:Cfg}{s:Cs}(h:RsSt U w L cf s)(q:Nat):RsSt U (w.drewN q) L cf s:=h.kp ((Kp.refl [] w).drewN q) (by simp) (fun x hx=> .inl hx)
structure RAsk(U:List Nat)(w:World)(L:RLay)(cf:Cfg)(s:Cs)(ga i:Nat)(a:Ask):Prop where
 hga:L.ga=some ga
 ne:ga≠L.b/\ga≠L.gw
 lt:ga<w.heap.size
 c7:∃cA,w.cell? ⟨L.b,7,none⟩=some (.slice (some ⟨ga,0,none⟩) s.asks.length cA)
 q0:w.cell? ⟨ga,i*11,none⟩=some (.int .i64 (a.shard:Int))
 q1:w.cell? ⟨ga,i*11+1,none⟩=some (.int .i64 (a.ctx:Int))
 q2:∃Af cF,w.cell? ⟨ga,i*11+2,none⟩=some (.slice Af a.frame.length cF)/\RdS [ga] w Af (iv .u8 a.frame)/\(Af=none->cF=0)
 q3:w.cell? ⟨ga,i*11+3,none⟩=some (.int .i64 (a.tried:Int))
 q4:w.cell? ⟨ga,i*11+4,none⟩=some (.int .i64 (a.waited:Int))
 q5:w.cell? ⟨ga,i*11+5,none⟩=some (.bool a.hinted)
 q6:w.cell? ⟨ga,i*11+6,none⟩=some (.bool a.answered)
 fr:∀j,w.frozen? ⟨ga,j,none⟩=false
 wait:∀n:Nat,RsSt U (w.setCell ⟨ga,i*11+4,none⟩ (.int .i64 (n:Int))) L cf {s with asks:=s.asks.set i {a with waited:=n}}
 try_:∀n:Nat,RsSt U (w.setCell ⟨ga,i*11+3,none⟩ (.int .i64 (n:Int))) L cf {s with asks:=s.asks.set i {a with tried:=n}}
 hint:∀b,RsSt U (w.setCell ⟨ga,i*11+5,none⟩ (.bool b)) L cf {s with asks:=s.asks.set i {a with hinted:=b}}
 answ:∀b,RsSt U (w.setCell ⟨ga,i*11+6,none⟩ (.bool b)) L cf {s with asks:=s.asks.set i {a with answered:=b}}
theorem RsSt.ask{U:List Nat}{w:World}{L:RLay}{cf:Cfg}{s:Cs}(h:RsSt U w L cf s){i:Nat}{a:Ask}(ha:s.asks[i]?=some a):∃ga,RAsk U w L cf s ga i a:=by
 obtain⟨κ,VS,VW,VL,VA,VD,h⟩:=h
 obtain⟨ga,c,fv,mv',rfl,hga,cell,fr,hf,hm,upd⟩:=h.askAt ha
 obtain⟨Af,cF,rfl,hr,_,_,hn⟩:=id hf
 have h4:=h.sep.ga ga hga
 have hin:ga∈L.all++U:=List.mem_append.2 (.inl (RLay.mem.2 (.inr (.inr (.inr (.inl hga))))))
 refine⟨ga,hga,⟨fun e=>by have:=h.sep.b;rw[e] at h4;omega,fun e=>by have:=h.sep.gw;rw[e] at h4;omega⟩,h4.2,⟨c,bkc h.hd 7 rfl⟩,cell 0 _ rfl,cell 1 _ rfl,⟨Af,cF,cell 2 _ rfl,fun j v hv=> ?_,hn⟩,cell 3 _ rfl,cell 4 _ rfl,cell 5 _ rfl,cell 6 _ rfl,fr,
  fun n=>⟨_,_,_,_,_,_,upd {a with waited:=n} _ _ 4 _ rfl (by decide) hf hm⟩,fun n=>⟨_,_,_,_,_,_,upd {a with tried:=n} _ _ 3 _ rfl (by decide) hf hm⟩,fun b=>⟨_,_,_,_,_,_,upd {a with hinted:=b} _ _ 5 _ rfl (by decide) hf hm⟩,fun b=>⟨_,_,_,_,_,_,upd {a with answered:=b} _ _ 6 _ rfl (by decide) hf hm⟩⟩
 obtain⟨x,e,hn,hc⟩:=hr j v hv
 exact⟨x,e,fun hm=>hn (by simp at hm;rw[hm];exact hin),hc⟩
structure RWh(U:List Nat)(w:World)(L:RLay)(cf:Cfg)(s:Cs)(sh:Nat)(xs:List Int)(VSA:Option Addr)(Ab Ao nj:Nat):Prop where
 sA:∃b o cS,VSA=some ⟨b,o,none⟩/\w.cell? ⟨L.b,3,none⟩=some (.slice VSA cf.shards.length cS)/\b∉L.all/\∃cj,w.cell? ⟨b,o+sh,none⟩=some (.slice (some ⟨Ab,Ao,none⟩) nj cj)
 wA:∃cw,w.cell? ⟨L.b,4,none⟩=some (.slice (some ⟨L.gw,0,none⟩) cf.shards.length cw)
 nA:Ab∉L.all
 rd:∀i (h:i<xs.length),w.cell? ⟨Ab,Ao+i,none⟩=some (.int .i64 xs[i])
 w0:w.cell? ⟨L.gw,sh,none⟩=some (.int .i64 (dest cf s.whom sh))
 wf:w.frozen? ⟨L.gw,sh,none⟩=false
 set:∀x,RsSt U (w.setCell ⟨L.gw,sh,none⟩ (.int .i64 (dest cf (s.whom.set sh x) sh))) L cf {s with whom:=s.whom.set sh x}
theorem RsSt.wh{U:List Nat}{w:World}{L:RLay}{cf:Cfg}{s:Cs}(h:RsSt U w L cf s)(hwl:s.whom.length=cf.shards.length){sh:Nat}(hsh:sh<cf.shards.length)(hg:Grp cf.shards[sh]):∃VSA Ab Ao,RWh U w L cf s sh cf.shards[sh] VSA Ab Ao cf.shards[sh].length:=by
 obtain⟨κ,VS,VW,VL,VA,VD,h⟩:=h
 obtain⟨b,o,cS,Ab,Ao,nj,cj,rfl,hb,c0,hA,rfl,hr⟩:=h.nodes hsh hg
 obtain⟨cw,rfl,cw0,fw,upd⟩:=h.whom hwl hsh
 refine⟨_,Ab,Ao,⟨b,o,cS,rfl,bkc h.hd 3 rfl,fun e=>hb (List.mem_append.2 (.inl e)),cj,c0⟩,⟨cw,bkc h.hd 4 rfl⟩,fun e=>hA (List.mem_append.2 (.inl e)),fun i hi=> ?_,cw0,fw,fun x=>⟨_,_,_,_,_,_,upd x⟩⟩
 obtain⟨_,_,e,hc⟩:=int_at hr.rd i hi
 cases e
 exact hc
structure TkR(U:List Nat)(L:RLay)(cf:Cfg)(s:Cs)(w:World)(n k:Nat)(wh:List Nat)(az:List Ask)(ms:List Msg)(v:Value)(wr:World):Prop where
 ok:CsOk cf {s with whom:=wh,asks:=az}
 wt:Wt cf az
 len:az.length=n
 st:RsSt (v.ownBlock.toList++U) wr L cf {s with whom:=wh,asks:=az}
 out:OutI (L.all++U) wr v ms
 kp:Kp L.all w wr
 own:∀g,v.ownBlock=some g->w.heap.size<=g
 few:ms.length<=k
 go:tkGo cf (n-k) k wh az ms=tkGo cf n 0 s.whom s.asks []
theorem TkR.skip{U:List Nat}{L:RLay}{cf:Cfg}{s:Cs}{w:World}{n k:Nat}{wh:List Nat}{az:List Ask}{ms:List Msg}{v:Value}{wr w1:World}(h:TkR U L cf s w n k wh az ms v wr)(hk:k<n){a:Ask}(haz:az[k]?=some a)(ha:a.answered=true)(k1:Kp [] wr w1):TkR U L cf s w n (k+1) wh az ms v w1:=by
 refine⟨h.ok,h.wt,h.len,h.st.kp k1 (by simp) (fun x hx=> .inl hx),h.out.kp k1 (by simp) (fun x hx=> .inl hx),h.kp.trans k1 (by simp),h.own,by have:=h.few;omega, ?_⟩
 rw[<-h.go,show n-k=n-(k+1)+1 by omega,tkGo_step cf _ k wh az ms a haz,if_pos ha]
theorem TkR.wait{U:List Nat}{L:RLay}{cf:Cfg}{s:Cs}{w:World}{n k:Nat}{wh:List Nat}{az:List Ask}{ms:List Msg}{v:Value}{wr w1:World}(h:TkR U L cf s w n k wh az ms v wr){ga:Nat}{a:Ask}(haz:az[k]?=some a)(hA:RAsk (v.ownBlock.toList++U) wr L cf {s with whom:=wh,asks:=az} ga k a)
 (k1:Kp [] (wr.setCell ⟨ga,k*11+4,none⟩ (.int .i64 ((a.waited+1:Nat):Int))) w1):
 RsSt (v.ownBlock.toList++U) w1 L cf {s with whom:=wh,asks:=az.set k {a with waited:=a.waited+1}}/\OutI (L.all++U) w1 v ms/\Kp L.all w w1/\CsOk cf {s with whom:=wh,asks:=az.set k {a with waited:=a.waited+1}}/\Kp [ga] wr w1:=by
 have kS:Kp [ga] wr (wr.setCell ⟨ga,k*11+4,none⟩ (.int .i64 ((a.waited+1:Nat):Int))):=(Kp.refl _ wr).setCell (.inl (by simp)) _
 have k2:=kS.trans k1 (by simp)
 have hin:ga∈L.all:=RLay.mem.2 (.inr (.inr (.inr (.inl hA.hga))))
 have hwt:=h.wt a (List.mem_of_getElem? haz)
 have aok:=h.ok.asks a (List.mem_of_getElem? haz)
 have hpat:=h.ok.cfg.pat
 refine⟨(hA.wait (a.waited+1)).kp k1 (by simp) (fun x hx=> .inl hx),h.out.kp k2 (fun x hx=> ?_) (fun x hx=> .inl hx),h.kp.trans k2 (fun x hx=> ?_),h.ok.ask k ⟨aok.shard,aok.ctx,aok.frame,aok.tried,by show a.waited+1<=1001;omega⟩,k2⟩
 ·simp only[List.mem_singleton] at hx
  subst hx
  exact .inl (List.mem_append.2 (.inl hin))
 ·simp only[List.mem_singleton] at hx
  subst hx
  exact .inl hin
theorem TkR.waits{U:List Nat}{L:RLay}{cf:Cfg}{s:Cs}{w:World}{n k:Nat}{wh:List Nat}{az:List Ask}{ms:List Msg}{v:Value}{wr w1:World}(h:TkR U L cf s w n k wh az ms v wr)(hk:k<n){ga:Nat}{a:Ask}(haz:az[k]?=some a)(hA:RAsk (v.ownBlock.toList++U) wr L cf {s with whom:=wh,asks:=az} ga k a)
 (k1:Kp [] (wr.setCell ⟨ga,k*11+4,none⟩ (.int .i64 ((a.waited+1:Nat):Int))) w1) (ha:a.answered=false) (hw:a.waited+1<cf.pat):TkR U L cf s w n (k+1) wh (az.set k {a with waited:=a.waited+1}) ms v w1:=by
 obtain⟨q1,q2,q3,q4,q5⟩:=h.wait haz hA k1
 refine⟨q4,h.wt.set k hw,by rw[List.length_set];exact h.len,q1,q2,q3,h.own,by have:=h.few;omega, ?_⟩
 rw[<-h.go,show n-k=n-(k+1)+1 by omega,tkGo_step cf _ k wh az ms a haz,if_neg (by rw[ha];simp),if_pos hw]
theorem TkR.ends{U:List Nat}{L:RLay}{cf:Cfg}{s:Cs}{w:World}{n k:Nat}{wh:List Nat}{az:List Ask}{ms:List Msg}{v:Value}{wr w1:World}(h:TkR U L cf s w n k wh az ms v wr)(hk:k<n){ga:Nat}{a:Ask}(haz:az[k]?=some a)(hA:RAsk (v.ownBlock.toList++U) wr L cf {s with whom:=wh,asks:=az} ga k a)
 (k1:Kp [] (wr.setCell ⟨ga,k*11+4,none⟩ (.int .i64 ((a.waited+1:Nat):Int))) w1) (ha:a.answered=false) (hw:¬a.waited+1<cf.pat) (ht:cf.tries<=a.tried) {j:Job} {jr:List Job} (hj:s.jobs=j::jr) (hd9:s.done.length<=1000000) (he9:s.ended<=1000000):
 Calls Tryz.prog 98 #[.pointer (some ⟨L.b,0,none⟩),.agg #[.int .i64 0,.int .i64 14,.bool false,.bool false,.slice none 0 0,.slice none 0 0]] w1 fun e w'=>e= .returned (.tuple #[])/\
  As (tkGo cf n 0 s.whom s.asks []=(wh,az.set k {a with waited:=a.waited+1},ms,true)/\∃L',RsSt U w' L' cf (endErr {s with whom:=wh,asks:=az.set k {a with waited:=a.waited+1}} 14)/\OutI (L'.all++U) w' v ms/\RGrew w L L'/\Kp L.all w w'):=by
 obtain⟨q1,q2,q3,q4,q5⟩:=h.wait haz hA k1
 obtain⟨κ,VS,VW,VL,VA,VD,hp⟩:=q1
 refine(ends_any (v.ownBlock.toList++U) w1 w1 L cf _ κ VS VW VL VA VD hp (Kp.refl _ _) j jr hj 0 14 false false none none 0 0 0 0 [] [] (BSl.nil _ _) (MSl.nil _ _) hd9 he9).mono ?_
 rintro e w' ⟨rfl,L',r1,r2,r3⟩
 refine⟨rfl,⟨?_,L',r1.kp (Kp.refl [] w') (by simp) (fun x hx=> .inl (List.mem_append.2 (.inr hx))),q2.kp r3 (fun x hx=> .inl (List.mem_append.2 (.inl hx))) (fun x hx=> ?_),⟨r2.1,fun x hx=>(r2.2 x hx).imp id (fun e=>Nat.le_trans q3.size e)⟩,q3.trans r3 (fun x hx=> .inl hx)⟩⟩
 ·rw[<-h.go,show n-k=n-(k+1)+1 by omega,tkGo_step cf _ k wh az ms a haz,if_neg (by rw[ha];simp),if_neg hw,if_pos ht]
 ·rcases List.mem_append.1 hx with e|e
  ·exact(r2.2 x e).imp (fun e=>List.mem_append.2 (.inl e)) id
  ·exact .inl (List.mem_append.2 (.inr e))
structure TkM(U:List Nat)(L:RLay)(cf:Cfg)(s:Cs)(w:World)(wh:List Nat)(az:List Ask)(ms:List Msg)(v:Value)(wr:World):Prop where
 st:RsSt (v.ownBlock.toList++U) wr L cf {s with whom:=wh,asks:=az}
 out:OutI (L.all++U) wr v ms
 kp:Kp L.all w wr
theorem TkR.mid{U:List Nat}{L:RLay}{cf:Cfg}{s:Cs}{w:World}{n k:Nat}{wh:List Nat}{az:List Ask}{ms:List Msg}{v:Value}{wr:World}(h:TkR U L cf s w n k wh az ms v wr):TkM U L cf s w wh az ms v wr:=⟨h.st,h.out,h.kp⟩
theorem TkM.kp0{U:List Nat}{L:RLay}{cf:Cfg}{s:Cs}{w:World}{wh:List Nat}{az:List Ask}{ms:List Msg}{v:Value}{wr w1:World}(h:TkM U L cf s w wh az ms v wr)(k:Kp [] wr w1):TkM U L cf s w wh az ms v w1:=
 ⟨h.st.kp k (by simp) (fun x hx=> .inl hx),h.out.kp k (by simp) (fun x hx=> .inl hx),h.kp.trans k (by simp)⟩
theorem TkM.step{U:List Nat}{L:RLay}{cf:Cfg}{s:Cs}{w:World}{wh wh1:List Nat}{az az1:List Ask}{ms:List Msg}{v:Value}{wr w1:World}(h:TkM U L cf s w wh az ms v wr){x:Nat}(hx:x∈L.all)(k:Kp [x] wr w1)(st1:RsSt (v.ownBlock.toList++U) w1 L cf {s with whom:=wh1,asks:=az1}):TkM U L cf s w wh1 az1 ms v w1:=
 ⟨st1,h.out.kp k (fun y hy=> .inl (by simp only[List.mem_singleton] at hy;subst hy;exact List.mem_append.2 (.inl hx))) (fun x hx=> .inl hx),h.kp.trans k (fun y hy=> .inl (by simp only[List.mem_singleton] at hy;subst hy;exact hx))⟩
theorem TkM.wait{U:List Nat}{L:RLay}{cf:Cfg}{s:Cs}{w:World}{k:Nat}{wh:List Nat}{az:List Ask}{ms:List Msg}{v:Value}{wr:World}(h:TkM U L cf s w wh az ms v wr){ga:Nat}{a:Ask}(_:az[k]?=some a)(hA:RAsk (v.ownBlock.toList++U) wr L cf {s with whom:=wh,asks:=az} ga k a)(n:Nat):
 Kp [ga] wr (wr.setCell ⟨ga,k*11+4,none⟩ (.int .i64 (n:Int)))/\TkM U L cf s w wh (az.set k {a with waited:=n}) ms v (wr.setCell ⟨ga,k*11+4,none⟩ (.int .i64 (n:Int))):=by
 have kS:Kp [ga] wr (wr.setCell ⟨ga,k*11+4,none⟩ (.int .i64 (n:Int))):=(Kp.refl _ wr).setCell (.inl (by simp)) _
 exact⟨kS,h.step (RLay.mem.2 (.inr (.inr (.inr (.inl hA.hga))))) kS (hA.wait n)⟩
theorem TkM.retry{U:List Nat}{L:RLay}{cf:Cfg}{s:Cs}{w:World}{k:Nat}{wh:List Nat}{az:List Ask}{ms:List Msg}{v:Value}{wr:World}(h:TkM U L cf s w wh az ms v wr){ga:Nat}{a:Ask}(haz:az[k]?=some a)(hga:L.ga=some ga):
 Kp [ga] wr ((wr.setCell ⟨ga,k*11+3,none⟩ (.int .i64 ((a.tried:Int)+1))).setCell ⟨ga,k*11+5,none⟩ (.bool false))/\TkM U L cf s w wh (az.set k {a with tried:=a.tried+1,hinted:=false}) ms v ((wr.setCell ⟨ga,k*11+3,none⟩ (.int .i64 ((a.tried:Int)+1))).setCell ⟨ga,k*11+5,none⟩ (.bool false)):=by
 have hin:ga∈L.all:=RLay.mem.2 (.inr (.inr (.inr (.inl hga))))
 have hk:=(List.getElem?_eq_some_iff.1 haz).1
 obtain⟨g1,hA⟩:=h.st.ask (i:=k) (a:=a) haz
 obtain rfl:g1=ga:=by have:=hA.hga;rw[hga] at this;exact(Option.some.inj this).symm
 have kS:Kp [g1] wr (wr.setCell ⟨g1,k*11+3,none⟩ (.int .i64 ((a.tried:Int)+1))):=(Kp.refl _ wr).setCell (.inl (by simp)) _
 have hM:TkM U L cf s w wh (az.set k {a with tried:=a.tried+1}) ms v (wr.setCell ⟨g1,k*11+3,none⟩ (.int .i64 ((a.tried:Int)+1))):=h.step hin kS (hA.try_ (a.tried+1))
 have haz2:(az.set k {a with tried:=a.tried+1})[k]?=some {a with tried:=a.tried+1}:=List.getElem?_set_self hk
 obtain⟨g2,hA2⟩:=hM.st.ask (i:=k) haz2
 obtain rfl:g2=g1:=by have:=hA2.hga;rw[hga] at this;exact(Option.some.inj this).symm
 have kS2:Kp [g2] (wr.setCell ⟨g2,k*11+3,none⟩ (.int .i64 ((a.tried:Int)+1))) ((wr.setCell ⟨g2,k*11+3,none⟩ (.int .i64 ((a.tried:Int)+1))).setCell ⟨g2,k*11+5,none⟩ (.bool false)):=(Kp.refl _ _).setCell (.inl (by simp)) _
 have hM2:=hM.step (wh1:=wh) hin kS2 (hA2.hint false)
 rw[show({s with whom:=wh,asks:=az.set k {a with tried:=a.tried+1}}:Cs).asks=az.set k {a with tried:=a.tried+1} from rfl,List.set_set] at hM2
 exact⟨kS.trans kS2 (fun x hx=> .inl hx),hM2⟩
theorem TkM.turn{U:List Nat}{L:RLay}{cf:Cfg}{s:Cs}{w:World}{wh:List Nat}{az:List Ask}{ms:List Msg}{v:Value}{wr:World}(h:TkM U L cf s w wh az ms v wr)(hwl:wh.length=cf.shards.length){sh:Nat}(hsh:sh<cf.shards.length)(hg:Grp cf.shards[sh])(x:Nat):
 TkM U L cf s w (wh.set sh x) az ms v (wr.setCell ⟨L.gw,sh,none⟩ (.int .i64 (dest cf (wh.set sh x) sh))):=by
 obtain⟨_,_,_,hW⟩:=h.st.wh hwl hsh hg
 exact h.step (RLay.mem.2 (.inr (.inl rfl))) ((Kp.refl _ wr).setCell (.inl (by simp)) _) (hW.set x)
theorem TkM.send{U:List Nat}{L:RLay}{cf:Cfg}{s:Cs}{w:World}{k m c3:Nat}{A3:Option Addr}{wh:List Nat}{az:List Ask}{ms:List Msg}{wr:World}(h:TkM U L cf s w wh az ms (.slice A3 m c3) wr)(hml:ms.length=m){a:Ask}(haz:az[k]?=some a)(hsh:a.shard<cf.shards.length)(hwl:wh.length=cf.shards.length)(hg:Grp cf.shards[a.shard])
 (hown:∀g,(Value.slice A3 m c3).ownBlock=some g->w.heap.size<=g) {NF:Nat} {d:Int} (hNF:a.frame.length=NF) (hd:dest cf wh a.shard=d) (hNF9:NF<=10000) (hsl:cf.shards.length<=8) {ga:Nat} (hga:L.ga=some ga):
 ∃vs,Calls Tryz.prog 99 #[.pointer (some ⟨L.b,0,none⟩),.pointer (some ⟨ga,k*11,none⟩)] wr fun e w8=>∃A2 c2,e= .returned (.agg #[.int .i64 (cf.id:Int),.int .i64 d,.slice A2 NF c2])/\As ((w8.alloc (.cells #[.int .i64 (cf.id:Int),.int .i64 d,.slice A2 NF c2] 44)).ownsRow 0 44 3 (.slice A3 m c3) m vs)/\
  As (∀v9 w9,w9.ownsRow 0 44 3 v9 (m+1) (vs++[.int .i64 (cf.id:Int),.int .i64 d,.slice A2 NF c2])->Kp (Value.slice A3 m c3).ownBlock.toList (w8.alloc (.cells #[.int .i64 (cf.id:Int),.int .i64 d,.slice A2 NF c2] 44)) w9->H.At (w8.heap.size+1) (Value.slice A3 m c3).ownBlock v9.ownBlock->
   ∃A9 c9,v9= .slice A9 (m+1) c9/\As (TkM U L cf s w wh (az.set k {a with waited:=0}) (ms++[⟨cf.id,d,a.frame⟩]) (.slice A9 (m+1) c9) w9/\∀g,(Value.slice A9 (m+1) c9).ownBlock=some g->w.heap.size<=g)):=by
 obtain⟨ga',hA⟩:=h.st.ask (i:=k) (a:=a) haz
 obtain rfl:ga'=ga:=by have:=hA.hga;rw[hga] at this;exact(Option.some.inj this).symm
 obtain⟨VSA,Ab,Ao,hW⟩:=h.st.wh (sh:=a.shard) hwl hsh hg
 obtain⟨g0,g1,g2,g3,g4,g5,_⟩:=h.st.head
 obtain⟨cw,cwc⟩:=hW.wA
 obtain⟨Af,cF,q2,hrf,hnf⟩:=hA.q2
 rw[hNF] at q2
 obtain⟨vs,ho,hvn,hmv⟩:=id h.out
 rw[hml] at ho
 have hw0:=hW.w0
 rw[show({s with whom:=wh,asks:=az}:Cs).whom=wh from rfl,hd] at hw0
 have hsa:=sends_at wr L.b ga' (k*11) L.gw a.shard (cf.id:Int) d Af NF cF a.frame ⟨g0,⟨cf.shards.length,cw,hsh,by omega,cwc⟩,hw0,hA.q0,q2,⟨_,hA.q4⟩,hA.fr _,hrf,hNF,hnf,hA.ne.1,hA.ne.2⟩ (by omega)
 refine⟨vs,hsa.mono ?_⟩
 rintro e w8 ⟨A2,c2,rfl,H8⟩
 have hin:ga'∈L.all:=RLay.mem.2 (.inr (.inr (.inr (.inl hga))))
 obtain⟨kS,hM⟩:=h.wait haz hA 0
 have hM8:=hM.kp0 H8.out.2
 have k8:Kp [ga'] wr w8:=kS.trans H8.out.2 (by simp)
 have hgv:∀g,(Value.slice A3 m c3).ownBlock=some g->g≠ga':=fun g e e2=>hvn g e (by rw[e2];exact List.mem_append.2 (.inl hin))
 have ho8:=k8.own ho (fun g e hm=>by simp at hm;exact hgv g e hm)
 have hlt:=h.st.lt
 have hs8:=k8.size
 have hs:=h.kp.size
 refine⟨A2,c2,rfl,⟨ho8.alloc _⟩,⟨fun v9 w9 o9 k9 a9=> ?_⟩⟩
 have kA:Kp (Value.slice A3 m c3).ownBlock.toList w8 w9:=((Kp.refl _ w8).alloc _).trans k9 (fun x hx=> .inl hx)
 have hg9:∀g,v9.ownBlock=some g->(Value.slice A3 m c3).ownBlock=some g\/w8.heap.size<=g/\g<w9.heap.size:=fun g e=>by
  have hl:=own_lt o9 g e
  rcases a9 with e2|⟨y,e2,hy⟩
  ·rw[e2] at e;exact .inl e
  ·rw[e2] at e
   cases e
   exact .inr ⟨by omega,hl⟩
 have hlo:∀x∈L.all++U,x<w8.heap.size:=fun x hx=>by
  have:=hlt x (by simp only[List.mem_append] at hx⊢;rcases hx with e|e;exact .inl e;exact .inr (.inr e))
  omega
 have hmv8:MsOk ((Value.slice A3 m c3).ownBlock.toList++(L.all++U)) w8 ms vs:=hmv.kp k8 (fun x hx=> .inl (by simp only[List.mem_singleton] at hx;subst hx;simp[hin])) (fun x hx=> .inl hx)
 have hO:=OutI.snoc (m:=⟨cf.id,d,a.frame⟩) hml hlo hvn hmv8 (BSl.own (by have:=H8.out.1;rw[<-hNF] at this;exact this) (fun x hx=> .inl (by
  have:=hlt x (by simp only[List.mem_append] at hx⊢;rcases hx with e|e|e;exact .inr (.inl e);exact .inl e;exact .inr (.inr e))
  omega))) (by rw[hNF];exact o9) (by rw[hNF];exact k9) a9
 obtain⟨A9,c9,rfl,_⟩:=own_rd o9
 refine⟨A9,c9,rfl,⟨⟨?_,hO,hM8.kp.trans kA (fun x hx=> .inr (hown x (by simpa using hx)))⟩,fun g e=> ?_⟩⟩
 ·refine hM8.st.kp kA (fun x hx=> .inl (List.mem_append.2 (.inl hx))) (fun x hx=> ?_)
  rcases List.mem_append.1 hx with e|e
  ·exact(hg9 x (by simpa using e)).imp (fun e=>List.mem_append.2 (.inl (by simpa using e))) id
  ·exact .inl (List.mem_append.2 (.inr e))
 ·rcases hg9 g e with e2|e2
  ·exact hown g e2
  ·omega
theorem TkR.sent{U:List Nat}{L:RLay}{cf:Cfg}{s:Cs}{w:World}{n k:Nat}{wh:List Nat}{az:List Ask}{ms:List Msg}{v v9:Value}{wr w9:World}(h:TkR U L cf s w n k wh az ms v wr)(hk:k<n){a:Ask}(haz:az[k]?=some a)(ha:a.answered=false)(hw:¬a.waited+1<cf.pat)(ht:¬cf.tries<=a.tried){d:Int}(hd:dest cf (nextW cf wh a.shard) a.shard=d)
 (hM:TkM U L cf s w (nextW cf wh a.shard) (az.set k {a with waited:=0,tried:=a.tried+1,hinted:=false}) (ms++[⟨cf.id,d,a.frame⟩]) v9 w9) (ho:∀g,v9.ownBlock=some g->w.heap.size<=g):
 TkR U L cf s w n (k+1) (nextW cf wh a.shard) (az.set k {a with waited:=0,tried:=a.tried+1,hinted:=false}) (ms++[⟨cf.id,d,a.frame⟩]) v9 w9:=by
 have aok:=h.ok.asks a (List.mem_of_getElem? haz)
 have hpat:=h.ok.cfg.pat
 have hn:=h.ok.next aok.shard
 refine⟨hn.ask k ⟨aok.shard,aok.ctx,aok.frame,by show a.tried+1<=cf.tries;omega,by show 0<=1001;omega⟩,h.wt.set k (by show 0<cf.pat;omega),by rw[List.length_set];exact h.len,hM.st,hM.out,hM.kp,ho,by rw[List.length_append];have:=h.few;simp;omega, ?_⟩
 rw[<-h.go,show n-k=n-(k+1)+1 by omega,tkGo_step cf _ k wh az ms a haz,if_neg (by rw[ha];simp),if_neg hw,if_neg ht]
 rw[show msgOf cf (nextW cf wh a.shard) a=⟨cf.id,d,a.frame⟩ by rw[<-hd];rfl]
end Go.Proofs.YtdiljpdohmeceaaGreat.co.cr
