/- Words and walks that this claim rests on: proved lemmas alone. -/
import Derived.Test.YtdiljpdohmeceaaGreatZ5
set_option maxHeartbeats 16000000
set_option maxRecDepth 100000
namespace Go.Proofs.YtdiljpdohmeceaaGreat.co
open Go.RowKit H O opk frame wir
def resOf(m:Nat)(e:Int)(was has:Bool)(text:List Int)(ms:List (ByteArray×Int)):Res:=if e=0 then⟨m,0,was,has,text,ms⟩ else⟨m,e,false,false,[],[]⟩
def EndsI(U:List Nat)(L:Lay)(cf:Cfg)(s':Cs)(ps:List Nat)(w w':World):Prop:=∃L',CoSt U w' L' cf s'/\Grew w L L'/\L'.js=ps/\Kp L.all w w'
theorem ends_any(U:List Nat)(w0 w:World)(L:Lay)(cf:Cfg)(s:Cs)(κ:Nat->Nat)(VS VW VJ VD MV AV:Value)(l:List (ByteArray×Int))(j:Job)(jr:List Job)(p0:Nat)(ps:List Nat)(h:CoP U w0 L cf s κ VS VW VJ VD MV AV l)(hj:s.jobs=j::jr)(hjs:L.js=p0::ps)
 (k0:Kp (p0::L.gm.toList) w0 w) (was has:Bool) (tv mv' c6 c7 c8 c9 c10 c11 c12 c13:Value) (text:List Int) (ms:List (ByteArray×Int)) (e:Int)
 (hp:w.heap[p0]?=some (.cells #[.int .i64 (s.ended:Int),.int .i64 0,.bool was,.bool has,tv,mv',c6,c7,c8,c9,c10,c11,c12,c13] 92 (0,0)))
 (htv:BSl (L.b::L.gw::(L.gj.toList++L.js)++U++L.gd.toList) w tv text) (hmv:MSl (L.b::L.gw::(L.gj.toList++L.js)++U++L.gd.toList) w mv' ms) (hdl:s.done.length<=1000000):
 Calls Tryz.prog 32 #[.pointer (some ⟨L.b,0,none⟩),.int .i64 e] w fun en w'=>en= .returned (.tuple #[])/\EndsI U L cf (endJob s (resOf s.ended e was has text ms)) ps w0 w':=by
 obtain⟨Ax,ct,rfl,hrt,hlt,hmt,hnt⟩:=id htv
 obtain⟨Am,cm,rfl,hrm,hlm,hmm,hnm⟩:=id hmv
 have hp7:=h.sep.js p0 (by rw[hjs];simp)
 have hb1:=h.sep.b
 have hbp:L.b≠p0:=fun e=>by rw[e] at hb1;omega
 have hbg:L.b∉p0::L.gm.toList:=by
  simp only[List.mem_cons,Option.mem_toList,not_or]
  refine⟨hbp,fun e=> ?_⟩
  have:=h.sep.gm _ e
  omega
 have hbw:=k0.blk h.hd hbg
 have hq:Que w VJ L.gj (p0::ps):=by
  rw[<-hjs]
  refine h.jq.kp k0 (fun x hx hm=> ?_)
  have h3:=h.sep.gj x hx
  rcases List.mem_cons.1 hm with e|e
  ·rw[e] at h3;omega
  ·have:=h.sep.gm x (by simpa using e);omega
 rcases id hq with⟨_,_,h0⟩|⟨qb,qo,qc,cur,hgj,rfl,hcur,hql,hqs,hqm,hqc⟩
 ·cases h0
 have q0:w.cell? ⟨qb,qo,none⟩=some (.pointer (some ⟨p0,0,none⟩)):=bkc hcur _ (hqc 0 p0 rfl)
 obtain⟨vs,hdo,hdg,hdr⟩:=h.dn
 obtain⟨AD,cD,rfl,hlD,hmD,_,_⟩:=own_rd hdo
 have hgdl:∀x,L.gd=some x->x∉p0::L.gm.toList:=by
  intro x hx hm
  have h3:=h.sep.gd x hx
  rcases List.mem_cons.1 hm with e|e
  ·rw[e] at h3;omega
  ·have:=h.sep.gm x (by simpa using e);omega
 have hdow:=k0.own hdo (fun x e=>hgdl x (by rw[<-hdg];exact e))
 obtain⟨nd,hnd⟩:∃n,s.done.length=n:=⟨_,rfl⟩
 rw[hnd] at hbw hdow hdl hlD hdg
 have hkgd:∀x,(Value.slice AD nd cD).ownBlock=some x->L.gd=some x:=fun x e=>by rw[hdg] at e;exact e
 have hqn:(p0::ps).length=ps.length+1:=rfl
 rw[hqn] at hbw hql
 obtain⟨m,hm⟩:∃m,ps.length=m:=⟨_,rfl⟩
 rw[hm] at hbw hql
 obtain⟨VJ1,hVJ1⟩:∃v,(if qc=1 then Value.slice (some ⟨qb,qo,none⟩) 0 0 else .slice (some ⟨qb,qo+1,none⟩) m (qc-1))=v:=⟨_,rfl⟩
 have hpl:p0<w.heap.size:=lt_of_block hp
 have hbl:L.b<w.heap.size:=lt_of_block hbw
 have hql2:qb<w.heap.size:=lt_of_block hcur
 have hqb:κ qb=3:=(h.sep.gj qb hgj).1
 have hqW:∀W:World,W.heap[qb]?=some (.cells cur 88 (0,0))->Que W VJ1 L.gj ps:=by
  intro W hW
  rw[<-hVJ1]
  split
  ·have h0:ps.length=0:=by omega
   obtain rfl:ps=[]:=List.eq_nil_of_length_eq_zero h0
   exact .inr ⟨qb,qo,0,cur,hgj,rfl,hW,Nat.le_refl _,by omega,Nat.zero_le _,by simp⟩
  ·refine .inr ⟨qb,qo+1,qc-1,cur,hgj,by rw[hm],hW,by omega,by omega,by omega,fun i p hi=> ?_⟩
   have:=hqc (i+1) p hi
   rwa[show qo+(i+1)=qo+1+i by omega] at this
 have HFIN:As (∀(W w7:World) (v7:Value) (rv:List Value) (r:Res),Kp [] w W->(∀S2,(∀x∈S2,x∈L.b::L.gw::(L.gj.toList++L.js)++U++L.gd.toList)->ResOk S2 w r rv)->w7.ownsRow 0 61 6 v7 (nd+1) (vs++rv)->
  Kp (Value.slice AD nd cD).ownBlock.toList (W.alloc (.cells rv.toArray 61)) w7->At (W.heap.size+1) (Value.slice AD nd cD).ownBlock v7.ownBlock->
  (w7.cell? ⟨L.b,8,none⟩=some (.slice AD nd cD)/\w7.frozen? ⟨L.b,8,none⟩=false/\w7.cell? ⟨L.b,5,none⟩=some (.slice (some ⟨qb,qo,none⟩) (m+1) qc)/\w7.frozen? ⟨L.b,5,none⟩=false)/\As (EndsI U L cf (endJob s r) ps w0 ((w7.setCell ⟨L.b,8,none⟩ v7).setCell ⟨L.b,5,none⟩ VJ1))):=⟨by
  intro W w7 v7 rv r kW hr o7 k7 a7
  have hbn:L.b∉(Value.slice AD nd cD).ownBlock.toList:=by
   intro e
   have:=hkgd _ (by simpa using e)
   have:=h.sep.gd _ this
   omega
  have kA:Kp [] w (W.alloc (.cells rv.toArray 61)):=kW.alloc _
  have hb7:=k7.blk (kA.blk hbw (by simp)) hbn
  have kB:Kp [L.b] w7 ((w7.setCell ⟨L.b,8,none⟩ v7).setCell ⟨L.b,5,none⟩ VJ1):=((Kp.refl [L.b] w7).setCell (.inl (by simp)) _).setCell (.inl (by simp)) _
  have hbF:((w7.setCell ⟨L.b,8,none⟩ v7).setCell ⟨L.b,5,none⟩ VJ1).heap[L.b]?=_:=heap_setCell_same _ L.b 5 _ _ VJ1 (heap_setCell_same w7 L.b 8 _ _ v7 hb7)
  have kC:Kp (L.b::L.gd.toList) w ((w7.setCell ⟨L.b,8,none⟩ v7).setCell ⟨L.b,5,none⟩ VJ1):=by
   refine((kA.mono (T:=L.b::L.gd.toList) (by simp)).trans k7 (fun x hx=> .inl ?_)).trans kB (by simp)
   have:=hkgd x (by simpa using hx)
   simp[this]
  have kF:Kp (L.b::p0::(L.gd.toList++L.gm.toList)) w0 ((w7.setCell ⟨L.b,8,none⟩ v7).setCell ⟨L.b,5,none⟩ VJ1):=by
   refine(k0.mono (T:=L.b::p0::(L.gd.toList++L.gm.toList)) (fun x hx=> .inl ?_)).trans kC (fun x hx=> .inl ?_)
   ·simp only[List.mem_cons,List.mem_append] at hx⊢
    rcases hx with e|e
    ·simp[e]
    ·simp[e]
   ·simp only[List.mem_cons,List.mem_append] at hx⊢
    rcases hx with e|e
    ·simp[e]
    ·simp[e]
  have hat:∀x,v7.ownBlock=some x->L.gd=some x\/w.heap.size+1<=x/\x<w7.heap.size:=by
   intro x e
   have hx7:=own_lt o7 x e
   rcases a7 with e2|⟨y,e2,hy⟩
   ·rw[e2] at e
    exact .inl (hkgd x e)
   ·rw[e2] at e
    cases e
    have:=kW.size
    exact .inr ⟨by omega,hx7⟩
  have s0:=k0.size
  have sB:=kB.size
  have ho:((w7.setCell ⟨L.b,8,none⟩ v7).setCell ⟨L.b,5,none⟩ VJ1).ownsRow 0 61 6 v7 (nd+1) (vs++rv):=by
   refine kB.own o7 (fun x e hm=> ?_)
   simp only[List.mem_singleton] at hm
   subst hm
   rcases hat _ e with e2|e2
   ·have:=h.sep.gd _ e2;omega
   ·omega
  have hcF:((w7.setCell ⟨L.b,8,none⟩ v7).setCell ⟨L.b,5,none⟩ VJ1).heap[qb]?=some (.cells cur 88 (0,0)):=by
   refine kC.blk hcur (fun hm=> ?_)
   rcases List.mem_cons.1 hm with e|e
   ·rw[e] at hqb;omega
   ·have:=h.sep.gd qb (by simpa using e);omega
  have hS2:∀S2,(∀x∈S2,x∈L.b::L.gw::(L.gj.toList++L.js)++U\/v7.ownBlock=some x)->DoneAt S2 ((w7.setCell ⟨L.b,8,none⟩ v7).setCell ⟨L.b,5,none⟩ VJ1) v7 v7.ownBlock (s.done++[r]):=by
   intro S2 hS
   refine⟨vs++rv,by rw[List.length_append,hnd];exact ho,rfl,RsOk.snoc ?_ ?_⟩
   ·refine(hr _ (fun x hx=>hx)).kp kC (fun x hx=> .inl ?_) (fun x hx=> ?_)
    ·simp only[List.mem_cons,List.mem_append,List.cons_append] at hx⊢
     rcases hx with e|e
     ·simp[e]
     ·simp[e]
    ·rcases hS x hx with e|e
     ·exact .inl (List.mem_append.2 (.inl e))
     ·rcases hat x e with e2|e2
      ·exact .inl (by simp[e2])
      ·exact .inr (by omega)
   ·refine hdr.kp kF (fun x hx=> .inl ?_) (fun x hx=> ?_)
    ·refine List.mem_append.2 (.inl (Lay.mem.2 ?_))
     simp only[List.mem_cons,List.mem_append,Option.mem_toList] at hx
     rcases hx with e|e|e|e
     ·simp[e]
     ·simp[hjs,e]
     ·simp[e]
     ·simp[e]
    ·rcases hS x hx with e|e
     ·refine .inl ?_
      simp only[List.mem_cons,List.mem_append,List.cons_append,Option.mem_toList] at e⊢
      rcases e with e|e|(e|e)|e
      ·exact .inl (Lay.mem.2 (by simp[e]))
      ·exact .inl (Lay.mem.2 (by simp[e]))
      ·exact .inl (Lay.mem.2 (by simp[e]))
      ·exact .inl (Lay.mem.2 (by simp[e]))
      ·exact .inr e
     ·rcases hat x e with e2|e2
      ·exact .inl (List.mem_append.2 (.inl (Lay.mem.2 (by simp[e2]))))
      ·exact .inr (by omega)
  have hqF:=hqW _ hcF
  obtain⟨L',g1,g2,g3⟩:=h.ends (r:=r) hj hjs kF hbF hqF (fun x e=>(hat x e).imp id (fun e2=>⟨by omega,by omega⟩)) hS2
  refine⟨⟨bkc hb7 8 rfl,blk_free hb7 8,bkc hb7 5 rfl,blk_free hb7 5⟩,⟨L',g1,g2,g3,kF.mono (fun x hx=> .inl ?_)⟩⟩
  refine Lay.mem.2 ?_
  simp only[List.mem_cons,List.mem_append,Option.mem_toList] at hx
  rcases hx with e|e|e|e
  ·simp[e]
  ·simp[hjs,e]
  ·simp[e]
  ·simp[e]⟩
 have p1:w.cell? ⟨p0,0,none⟩=some (.int .i64 (s.ended:Int)):=bkc hp 0 rfl
 have p2:w.cell? ⟨p0,1,none⟩=some (.int .i64 0):=bkc hp 1 rfl
 have p3:w.cell? ⟨p0,2,none⟩=some (.bool was):=bkc hp 2 rfl
 have p4:w.cell? ⟨p0,3,none⟩=some (.bool has):=bkc hp 3 rfl
 have p5:w.cell? ⟨p0,4,none⟩=some (.slice Ax text.length ct):=bkc hp 4 rfl
 have p6:w.cell? ⟨p0,5,none⟩=some (.slice Am ms.length cm):=bkc hp 5 rfl
 have d5:w.cell? ⟨L.b,5,none⟩=some (.slice (some ⟨qb,qo,none⟩) (m+1) qc):=bkc hbw 5 rfl
 have d8:w.cell? ⟨L.b,8,none⟩=some (.slice AD nd cD):=bkc hbw 8 rfl
 have hbn:¬L.b=w.heap.size:=by omega
 have hqn2:¬qb=w.heap.size:=by omega
 have HP:=As.mk hp
 have HTV:=As.mk htv
 have HMV:=As.mk hmv
 have HDO:=As.mk hdow
 have hcs:(qc=1/\m=0/\VJ1= .slice (some ⟨qb,qo,none⟩) 0 0)\/(1<qc/\VJ1= .slice (some ⟨qb,qo+1,none⟩) m (qc-1)):=by
  by_cases e:qc=1
  ·exact .inl ⟨e,by omega,by rw[<-hVJ1,if_pos e]⟩
  ·exact .inr ⟨by omega,by rw[<-hVJ1,if_neg e]⟩
 have hrok0:As (e≠0->∀S2,(∀x∈S2,x∈L.b::L.gw::(L.gj.toList++L.js)++U++L.gd.toList)->ResOk S2 w (resOf s.ended e was has text ms) [.int .i64 (s.ended:Int),.int .i64 e,.bool false,.bool false,.slice none 0 0,.slice none 0 0]):=⟨fun he S2 _=>by
  rw[resOf,if_neg he]
  exact⟨_,_,rfl,BSl.nil _ _,MSl.nil _ _⟩⟩
 have hrok1:As (e=0->∀S2,(∀x∈S2,x∈L.b::L.gw::(L.gj.toList++L.js)++U++L.gd.toList)->ResOk S2 w (resOf s.ended e was has text ms) [.int .i64 (s.ended:Int),.int .i64 e,.bool was,.bool has,.slice Ax text.length ct,.slice Am ms.length cm]):=⟨fun he S2 hS=>by
  rw[resOf,if_pos he,he]
  exact⟨_,_,rfl,htv.kp (Kp.refl [] w) (by simp) (fun x hx=> .inl (hS x hx)),hmv.kp (Kp.refl [] w) (by simp) (fun x hx=> .inl (hS x hx))⟩⟩
 clear h hj hjs k0 hp htv hmv hrt hlt hmt hnt hrm hlm hmm hnm hp7 hb1 hbp hbg hbw hq hgj hcur hqs hqm hqc hdo hdg hdr hgdl hdow hnd hkgd hqn hm hVJ1 hqb hqW hlD hmD
 rcases hcs with⟨rfl,rfl,rfl⟩|⟨hq2,rfl⟩
 ·skip
  by_cases he:e=0
  ·have be:(e !=0)=false:=by simp[he]
   have HE:=As.mk he
   clear he
   go_enter Tryz.func32,Tryz.ntmps32
   go_upto_region 4 with fail
   obtain⟨W,hW⟩:∃W,W=w.alloc (.cells #[.int .i64 (s.ended:Int),.int .i64 e,.bool was,.bool has,.slice Ax text.length ct,.slice Am ms.length cm] 61):=⟨_,rfl⟩
   rw[<-hW]
   have kW:Kp [] w W:=by rw[hW];exact(Kp.refl [] w).alloc _
   have hRb:W.heap[w.heap.size]?=some (.cells #[.int .i64 (s.ended:Int),.int .i64 e,.bool was,.bool has,.slice Ax text.length ct,.slice Am ms.length cm] 61 (0,0)):=by rw[hW];exact heap_alloc_new w _
   have HK:=As.mk kW
   have HRB:=As.mk hRb
   have KX:As (∀wX,Kp [] W wX->wX.cell? ⟨L.b,8,none⟩=some (.slice AD nd cD)/\wX.cell? ⟨w.heap.size,0,none⟩=some (.int .i64 (s.ended:Int))/\wX.cell? ⟨w.heap.size,1,none⟩=some (.int .i64 e)/\wX.cell? ⟨w.heap.size,2,none⟩=some (.bool was)/\wX.cell? ⟨w.heap.size,3,none⟩=some (.bool has)/\wX.cell? ⟨w.heap.size,4,none⟩=some (.slice Ax text.length ct)/\wX.cell? ⟨w.heap.size,5,none⟩=some (.slice Am ms.length cm)):=⟨fun wX kX=>by
    have hX:=kX.blk hRb (by simp)
    exact⟨(kW.trans kX (by simp)).cell d8 (by simp),bkc hX 0 rfl,bkc hX 1 rfl,bkc hX 2 rfl,bkc hX 3 rfl,bkc hX 4 rfl,bkc hX 5 rfl⟩⟩
   have HOW:As (∀wX,Kp [] W wX->wX.ownsRow 0 61 6 (.slice AD nd cD) nd vs):=⟨fun wX kX=>(kW.trans kX (by simp)).own HDO.out (by simp)⟩
   have HRD:As (Rd (W.alloc (.cells #[.int .i64 (s.ended:Int),.int .i64 e,.bool was,.bool has,.slice Ax text.length ct,.slice Am ms.length cm] 61)).drew (some ⟨W.heap.size,0,none⟩) [.int .i64 (s.ended:Int),.int .i64 e,.bool was,.bool has,.slice Ax text.length ct,.slice Am ms.length cm]):=⟨((Kp.refl [] _).drew).rd_new (rd_new W [.int .i64 (s.ended:Int),.int .i64 e,.bool was,.bool has,.slice Ax text.length ct,.slice Am ms.length cm] 61) (by simp)⟩
   have HRK:As (∀S2,(∀x∈S2,x∈L.b::L.gw::(L.gj.toList++L.js)++U++L.gd.toList)->ResOk S2 w (resOf s.ended e was has text ms) [.int .i64 (s.ended:Int),.int .i64 e,.bool was,.bool has,.slice Ax text.length ct,.slice Am ms.length cm]):=⟨hrok1.out HE.out⟩
   clear hW hRb kW d5 d8
   obtain⟨g0,g1,g2,g3,g4,g5,g6⟩:=KX.out W (Kp.refl [] _)
   have n0:L.b<W.heap.size:=World.block_lt_of_cell? W _ g0
   have n1:¬L.b=W.heap.size:=by omega
   have n2:w.heap.size<W.heap.size:=World.block_lt_of_cell? W _ g1
   have n3:¬w.heap.size=W.heap.size:=by omega
   go_region_law (first|(refine step_app rfl (.tmp 26) (.tmp 28) 57 rfl 61 (.agg #[.int .i64 0,.int .i64 0,.bool false,.bool false,.slice none 0 0,.slice none 0 0]) 6 72 Tryz.underlying57 info_res rfl (by decide) (.slice AD nd cD) nd vs rfl (HOW.out _ (by first|exact((Kp.refl [] _).alloc _).drew|exact((Kp.refl [] _).drew.alloc _)|exact((Kp.refl [] _).alloc _)|exact(((Kp.refl [] _).alloc _).drewN _)|exact(((Kp.refl [] _).drewN _).alloc _))) (some ⟨W.heap.size,0,none⟩) 1 1 [.int .i64 (s.ended:Int),.int .i64 e,.bool was,.bool has,.slice Ax text.length ct,.slice Am ms.length cm] rfl rfl HRD.out (by simp) (by simp[Value.oneCell']) (by omega) (by omega) ?_;intro v7 w7 o7 k7 a7;obtain⟨A7,c7,rfl,_⟩:=own_rd o7;obtain⟨⟨y0,y1,y2,y3⟩,HZ⟩:=HFIN.out W w7 _ _ _ HK.out HRK.out o7 ((Kp.refl _ _).drew.trans k7 (fun x hx=> .inl hx)) (by simpa using a7);clear o7 k7 a7))
   all_goals
    go_wp2_with fail
    go_end0
    exact⟨rfl,HZ.out⟩
  ·have be:(e !=0)=true:=by simpa using he
   have HE:=As.mk he
   clear he
   go_enter Tryz.func32,Tryz.ntmps32
   go_upto_region 4 with fail
   obtain⟨W,hW⟩:∃W,W=w.alloc (.cells #[.int .i64 (s.ended:Int),.int .i64 e,.bool false,.bool false,.slice none 0 0,.slice none 0 0] 61):=⟨_,rfl⟩
   rw[<-hW]
   have kW:Kp [] w W:=by rw[hW];exact(Kp.refl [] w).alloc _
   have hRb:W.heap[w.heap.size]?=some (.cells #[.int .i64 (s.ended:Int),.int .i64 e,.bool false,.bool false,.slice none 0 0,.slice none 0 0] 61 (0,0)):=by rw[hW];exact heap_alloc_new w _
   have HK:=As.mk kW
   have HRB:=As.mk hRb
   have KX:As (∀wX,Kp [] W wX->wX.cell? ⟨L.b,8,none⟩=some (.slice AD nd cD)/\wX.cell? ⟨w.heap.size,0,none⟩=some (.int .i64 (s.ended:Int))/\wX.cell? ⟨w.heap.size,1,none⟩=some (.int .i64 e)/\wX.cell? ⟨w.heap.size,2,none⟩=some (.bool false)/\wX.cell? ⟨w.heap.size,3,none⟩=some (.bool false)/\wX.cell? ⟨w.heap.size,4,none⟩=some (.slice none 0 0)/\wX.cell? ⟨w.heap.size,5,none⟩=some (.slice none 0 0)):=⟨fun wX kX=>by
    have hX:=kX.blk hRb (by simp)
    exact⟨(kW.trans kX (by simp)).cell d8 (by simp),bkc hX 0 rfl,bkc hX 1 rfl,bkc hX 2 rfl,bkc hX 3 rfl,bkc hX 4 rfl,bkc hX 5 rfl⟩⟩
   have HOW:As (∀wX,Kp [] W wX->wX.ownsRow 0 61 6 (.slice AD nd cD) nd vs):=⟨fun wX kX=>(kW.trans kX (by simp)).own HDO.out (by simp)⟩
   have HRD:As (Rd (W.alloc (.cells #[.int .i64 (s.ended:Int),.int .i64 e,.bool false,.bool false,.slice none 0 0,.slice none 0 0] 61)).drew (some ⟨W.heap.size,0,none⟩) [.int .i64 (s.ended:Int),.int .i64 e,.bool false,.bool false,.slice none 0 0,.slice none 0 0]):=⟨((Kp.refl [] _).drew).rd_new (rd_new W [.int .i64 (s.ended:Int),.int .i64 e,.bool false,.bool false,.slice none 0 0,.slice none 0 0] 61) (by simp)⟩
   have HRK:As (∀S2,(∀x∈S2,x∈L.b::L.gw::(L.gj.toList++L.js)++U++L.gd.toList)->ResOk S2 w (resOf s.ended e was has text ms) [.int .i64 (s.ended:Int),.int .i64 e,.bool false,.bool false,.slice none 0 0,.slice none 0 0]):=⟨hrok0.out HE.out⟩
   clear hW hRb kW d5 d8
   obtain⟨g0,g1,g2,g3,g4,g5,g6⟩:=KX.out W (Kp.refl [] _)
   have n0:L.b<W.heap.size:=World.block_lt_of_cell? W _ g0
   have n1:¬L.b=W.heap.size:=by omega
   have n2:w.heap.size<W.heap.size:=World.block_lt_of_cell? W _ g1
   have n3:¬w.heap.size=W.heap.size:=by omega
   go_region_law (first|(refine step_app rfl (.tmp 26) (.tmp 28) 57 rfl 61 (.agg #[.int .i64 0,.int .i64 0,.bool false,.bool false,.slice none 0 0,.slice none 0 0]) 6 72 Tryz.underlying57 info_res rfl (by decide) (.slice AD nd cD) nd vs rfl (HOW.out _ (by first|exact((Kp.refl [] _).alloc _).drew|exact((Kp.refl [] _).drew.alloc _)|exact((Kp.refl [] _).alloc _)|exact(((Kp.refl [] _).alloc _).drewN _)|exact(((Kp.refl [] _).drewN _).alloc _))) (some ⟨W.heap.size,0,none⟩) 1 1 [.int .i64 (s.ended:Int),.int .i64 e,.bool false,.bool false,.slice none 0 0,.slice none 0 0] rfl rfl HRD.out (by simp) (by simp[Value.oneCell']) (by omega) (by omega) ?_;intro v7 w7 o7 k7 a7;obtain⟨A7,c7,rfl,_⟩:=own_rd o7;obtain⟨⟨y0,y1,y2,y3⟩,HZ⟩:=HFIN.out W w7 _ _ _ HK.out HRK.out o7 ((Kp.refl _ _).drew.trans k7 (fun x hx=> .inl hx)) (by simpa using a7);clear o7 k7 a7))
   all_goals
    go_wp2_with fail
    go_end0
    exact⟨rfl,HZ.out⟩
 ·have u0:(1:Int)<=(m:Int)+1:=by omega
  have u1:(1:Int)<(qc:Int):=by omega
  have u2:¬qc=1:=by omega
  have u3:(m:Int)+1<=(qc:Int):=by omega
  by_cases he:e=0
  ·have be:(e !=0)=false:=by simp[he]
   have HE:=As.mk he
   clear he
   go_enter Tryz.func32,Tryz.ntmps32
   go_upto_region 4 with fail
   obtain⟨W,hW⟩:∃W,W=w.alloc (.cells #[.int .i64 (s.ended:Int),.int .i64 e,.bool was,.bool has,.slice Ax text.length ct,.slice Am ms.length cm] 61):=⟨_,rfl⟩
   rw[<-hW]
   have kW:Kp [] w W:=by rw[hW];exact(Kp.refl [] w).alloc _
   have hRb:W.heap[w.heap.size]?=some (.cells #[.int .i64 (s.ended:Int),.int .i64 e,.bool was,.bool has,.slice Ax text.length ct,.slice Am ms.length cm] 61 (0,0)):=by rw[hW];exact heap_alloc_new w _
   have HK:=As.mk kW
   have HRB:=As.mk hRb
   have KX:As (∀wX,Kp [] W wX->wX.cell? ⟨L.b,8,none⟩=some (.slice AD nd cD)/\wX.cell? ⟨w.heap.size,0,none⟩=some (.int .i64 (s.ended:Int))/\wX.cell? ⟨w.heap.size,1,none⟩=some (.int .i64 e)/\wX.cell? ⟨w.heap.size,2,none⟩=some (.bool was)/\wX.cell? ⟨w.heap.size,3,none⟩=some (.bool has)/\wX.cell? ⟨w.heap.size,4,none⟩=some (.slice Ax text.length ct)/\wX.cell? ⟨w.heap.size,5,none⟩=some (.slice Am ms.length cm)):=⟨fun wX kX=>by
    have hX:=kX.blk hRb (by simp)
    exact⟨(kW.trans kX (by simp)).cell d8 (by simp),bkc hX 0 rfl,bkc hX 1 rfl,bkc hX 2 rfl,bkc hX 3 rfl,bkc hX 4 rfl,bkc hX 5 rfl⟩⟩
   have HOW:As (∀wX,Kp [] W wX->wX.ownsRow 0 61 6 (.slice AD nd cD) nd vs):=⟨fun wX kX=>(kW.trans kX (by simp)).own HDO.out (by simp)⟩
   have HRD:As (Rd (W.alloc (.cells #[.int .i64 (s.ended:Int),.int .i64 e,.bool was,.bool has,.slice Ax text.length ct,.slice Am ms.length cm] 61)).drew (some ⟨W.heap.size,0,none⟩) [.int .i64 (s.ended:Int),.int .i64 e,.bool was,.bool has,.slice Ax text.length ct,.slice Am ms.length cm]):=⟨((Kp.refl [] _).drew).rd_new (rd_new W [.int .i64 (s.ended:Int),.int .i64 e,.bool was,.bool has,.slice Ax text.length ct,.slice Am ms.length cm] 61) (by simp)⟩
   have HRK:As (∀S2,(∀x∈S2,x∈L.b::L.gw::(L.gj.toList++L.js)++U++L.gd.toList)->ResOk S2 w (resOf s.ended e was has text ms) [.int .i64 (s.ended:Int),.int .i64 e,.bool was,.bool has,.slice Ax text.length ct,.slice Am ms.length cm]):=⟨hrok1.out HE.out⟩
   clear hW hRb kW d5 d8
   obtain⟨g0,g1,g2,g3,g4,g5,g6⟩:=KX.out W (Kp.refl [] _)
   have n0:L.b<W.heap.size:=World.block_lt_of_cell? W _ g0
   have n1:¬L.b=W.heap.size:=by omega
   have n2:w.heap.size<W.heap.size:=World.block_lt_of_cell? W _ g1
   have n3:¬w.heap.size=W.heap.size:=by omega
   go_region_law (first|(refine step_app rfl (.tmp 26) (.tmp 28) 57 rfl 61 (.agg #[.int .i64 0,.int .i64 0,.bool false,.bool false,.slice none 0 0,.slice none 0 0]) 6 72 Tryz.underlying57 info_res rfl (by decide) (.slice AD nd cD) nd vs rfl (HOW.out _ (by first|exact((Kp.refl [] _).alloc _).drew|exact((Kp.refl [] _).drew.alloc _)|exact((Kp.refl [] _).alloc _)|exact(((Kp.refl [] _).alloc _).drewN _)|exact(((Kp.refl [] _).drewN _).alloc _))) (some ⟨W.heap.size,0,none⟩) 1 1 [.int .i64 (s.ended:Int),.int .i64 e,.bool was,.bool has,.slice Ax text.length ct,.slice Am ms.length cm] rfl rfl HRD.out (by simp) (by simp[Value.oneCell']) (by omega) (by omega) ?_;intro v7 w7 o7 k7 a7;obtain⟨A7,c7,rfl,_⟩:=own_rd o7;obtain⟨⟨y0,y1,y2,y3⟩,HZ⟩:=HFIN.out W w7 _ _ _ HK.out HRK.out o7 ((Kp.refl _ _).drew.trans k7 (fun x hx=> .inl hx)) (by simpa using a7);clear o7 k7 a7))
   all_goals
    go_wp2_with fail
    go_end0
    exact⟨rfl,HZ.out⟩
  ·have be:(e !=0)=true:=by simpa using he
   have HE:=As.mk he
   clear he
   go_enter Tryz.func32,Tryz.ntmps32
   go_upto_region 4 with fail
   obtain⟨W,hW⟩:∃W,W=w.alloc (.cells #[.int .i64 (s.ended:Int),.int .i64 e,.bool false,.bool false,.slice none 0 0,.slice none 0 0] 61):=⟨_,rfl⟩
   rw[<-hW]
   have kW:Kp [] w W:=by rw[hW];exact(Kp.refl [] w).alloc _
   have hRb:W.heap[w.heap.size]?=some (.cells #[.int .i64 (s.ended:Int),.int .i64 e,.bool false,.bool false,.slice none 0 0,.slice none 0 0] 61 (0,0)):=by rw[hW];exact heap_alloc_new w _
   have HK:=As.mk kW
   have HRB:=As.mk hRb
   have KX:As (∀wX,Kp [] W wX->wX.cell? ⟨L.b,8,none⟩=some (.slice AD nd cD)/\wX.cell? ⟨w.heap.size,0,none⟩=some (.int .i64 (s.ended:Int))/\wX.cell? ⟨w.heap.size,1,none⟩=some (.int .i64 e)/\wX.cell? ⟨w.heap.size,2,none⟩=some (.bool false)/\wX.cell? ⟨w.heap.size,3,none⟩=some (.bool false)/\wX.cell? ⟨w.heap.size,4,none⟩=some (.slice none 0 0)/\wX.cell? ⟨w.heap.size,5,none⟩=some (.slice none 0 0)):=⟨fun wX kX=>by
    have hX:=kX.blk hRb (by simp)
    exact⟨(kW.trans kX (by simp)).cell d8 (by simp),bkc hX 0 rfl,bkc hX 1 rfl,bkc hX 2 rfl,bkc hX 3 rfl,bkc hX 4 rfl,bkc hX 5 rfl⟩⟩
   have HOW:As (∀wX,Kp [] W wX->wX.ownsRow 0 61 6 (.slice AD nd cD) nd vs):=⟨fun wX kX=>(kW.trans kX (by simp)).own HDO.out (by simp)⟩
   have HRD:As (Rd (W.alloc (.cells #[.int .i64 (s.ended:Int),.int .i64 e,.bool false,.bool false,.slice none 0 0,.slice none 0 0] 61)).drew (some ⟨W.heap.size,0,none⟩) [.int .i64 (s.ended:Int),.int .i64 e,.bool false,.bool false,.slice none 0 0,.slice none 0 0]):=⟨((Kp.refl [] _).drew).rd_new (rd_new W [.int .i64 (s.ended:Int),.int .i64 e,.bool false,.bool false,.slice none 0 0,.slice none 0 0] 61) (by simp)⟩
   have HRK:As (∀S2,(∀x∈S2,x∈L.b::L.gw::(L.gj.toList++L.js)++U++L.gd.toList)->ResOk S2 w (resOf s.ended e was has text ms) [.int .i64 (s.ended:Int),.int .i64 e,.bool false,.bool false,.slice none 0 0,.slice none 0 0]):=⟨hrok0.out HE.out⟩
   clear hW hRb kW d5 d8
   obtain⟨g0,g1,g2,g3,g4,g5,g6⟩:=KX.out W (Kp.refl [] _)
   have n0:L.b<W.heap.size:=World.block_lt_of_cell? W _ g0
   have n1:¬L.b=W.heap.size:=by omega
   have n2:w.heap.size<W.heap.size:=World.block_lt_of_cell? W _ g1
   have n3:¬w.heap.size=W.heap.size:=by omega
   go_region_law (first|(refine step_app rfl (.tmp 26) (.tmp 28) 57 rfl 61 (.agg #[.int .i64 0,.int .i64 0,.bool false,.bool false,.slice none 0 0,.slice none 0 0]) 6 72 Tryz.underlying57 info_res rfl (by decide) (.slice AD nd cD) nd vs rfl (HOW.out _ (by first|exact((Kp.refl [] _).alloc _).drew|exact((Kp.refl [] _).drew.alloc _)|exact((Kp.refl [] _).alloc _)|exact(((Kp.refl [] _).alloc _).drewN _)|exact(((Kp.refl [] _).drewN _).alloc _))) (some ⟨W.heap.size,0,none⟩) 1 1 [.int .i64 (s.ended:Int),.int .i64 e,.bool false,.bool false,.slice none 0 0,.slice none 0 0] rfl rfl HRD.out (by simp) (by simp[Value.oneCell']) (by omega) (by omega) ?_;intro v7 w7 o7 k7 a7;obtain⟨A7,c7,rfl,_⟩:=own_rd o7;obtain⟨⟨y0,y1,y2,y3⟩,HZ⟩:=HFIN.out W w7 _ _ _ HK.out HRK.out o7 ((Kp.refl _ _).drew.trans k7 (fun x hx=> .inl hx)) (by simpa using a7);clear o7 k7 a7))
   all_goals
    go_wp2_with fail
    go_end0
    exact⟨rfl,HZ.out⟩
end Go.Proofs.YtdiljpdohmeceaaGreat.co
