/- Words and walks that this claim rests on: proved lemmas alone. -/
import Derived.Test.YtdiljpdohmeceaaGreatZ32
set_option maxHeartbeats 16000000
set_option maxRecDepth 100000
namespace Go.Proofs.YtdiljpdohmeceaaGreat.co
open Go.RowKit H O opk frame wir
open cr (RLay RsSt RNewJ RGrew Dis)
theorem does_tick(U:List Nat)(w:World)(P:Nat)(L:Lay)(M:RLay)(cf:Cfg)(s:Cs)(WV:Value)(ms:List Msg)(k:Nat)(an er hi wh fr:Int)(key:ByteArray)(BV MV:Value)(h:PairW U w P L M cf s WV ms)(inv:PInv cf s k)(hk:k<=10000)(h2:cf.shards.length<=2)(hms:ms.length<=60):
 Calls Tryz.prog 20 #[.pointer (some ⟨P,0,none⟩),.agg #[.int .i64 5,.int .i64 an,.int .i64 er,.int .i64 hi,.int .i64 wh,.int .i64 fr,.string key,BV,MV]] w fun e w'=>e= .returned (.bool true)/\Played U P L M cf WV (co.tick cf s).1 (wayN ms (co.tick cf s).2) w w':=by
 obtain⟨W,hW⟩:∃W,w.alloc (actObj 5 an er hi wh fr key BV MV)=W:=⟨_,rfl⟩
 have kW:Kp [] w W:=by rw[<-hW];exact(Kp.refl [] w).alloc _
 have hb:W.heap[w.heap.size]?=some (actObj 5 an er hi wh fr key BV MV):=by rw[<-hW];exact heap_alloc_new w _
 have a0:=bkc hb 0 rfl
 obtain⟨r,hr⟩:∃r,co.tick cf s=r:=⟨_,rfl⟩
 obtain⟨inv1,_,hrl⟩:=inv.tick hk
 rw[hr] at inv1 hrl⊢
 have hPW:=h.prs.kp (U2:=U) kW (by simp) (by simp) (fun x hx=> .inl hx)
 have hdon:=inv.don
 have hjob:=inv.job
 have hctx:=inv.ctx
 have p0:=bkc hPW.pr.hd 0 rfl
 have p1:=bkc hPW.pr.hd 1 rfl
 have HP:As (∀wX,Kp [] W wX->Calls Tryz.prog 11 #[.pointer (some ⟨L.b,0,none⟩)] wX fun e w2=>∃av,e= .returned av/\w2.cell? ⟨P,1,none⟩=some (.pointer (some ⟨M.b,0,none⟩))/\
  As (∃L1,PrS U w2 P L1 M cf r.1 s WV ms/\OutI (WV.ownBlock.toList++S0 P L1 M U) w2 av r.2/\Kp L.all W w2/\Grew W L L1)):=⟨fun wX kX=>by
  have hX:=hPW.kp (U2:=U) kX (by simp) (by simp) (fun x hx=> .inl hx)
  have hc:=tick_all _ wX L cf s hX.pr.c inv.ok inv.wt (by omega) (by omega) (by omega)
  rw[hr] at hc
  refine hc.mono ?_
  rintro e w2 ⟨L1,av,rfl,q1,q2,q3,q4⟩
  have hp2:=hX.prog q1 q3 q4
  exact⟨av,rfl,bkc hp2.pr.hd 1 rfl,⟨L1,hp2,q2.prog,(kX.mono (by simp)).trans q4 (fun x hx=> .inl hx),q3.le kX.size⟩⟩⟩
 have HX:As (∀w2 L1 av,PrS U w2 P L1 M cf r.1 s WV ms->OutI (WV.ownBlock.toList++S0 P L1 M U) w2 av r.2->∀wX,Kp [] w2 wX->Calls Tryz.prog 66 #[.pointer (some ⟨M.b,0,none⟩)] wX fun e w3=>∃bv,e= .returned bv/\
  As (∃M1,PrS U w3 P L1 M1 cf r.1 r.1 WV ms/\OutI (WV.ownBlock.toList++S0 P L1 M1 U) w3 av r.2/\OutI (WV.ownBlock.toList++S0 P L1 M1 U) w3 bv r.2/\Kp M.all w2 w3/\RGrew w2 M M1)):=⟨fun w2 L1 av hps ha wX kX=>by
  have hX:=hps.kp (U2:=U) kX (by simp) (by simp) (fun x hx=> .inl hx)
  have hc:=cr.tick_all _ wX M cf s hX.pr.x inv.ok inv.wt inv.txt (by omega) (by omega) (by omega)
  rw[hr] at hc
  refine hc.mono ?_
  rintro e w3 ⟨M1,bv,rfl,q1,q2,q3,q4⟩
  exact⟨bv,rfl,⟨M1,hX.docu q1 q3 q4,(ha.kp kX (by simp) (fun x hx=> .inl hx)).behind q3 q4,q2.docu,(kX.mono (by simp)).trans q4 (fun x hx=> .inl hx),q3.le kX.size⟩⟩⟩
 have HS:As (∀w3 L1 M1 av bv w2,PrS U w3 P L1 M1 cf r.1 r.1 WV ms->OutI (WV.ownBlock.toList++S0 P L1 M1 U) w3 av r.2->OutI (WV.ownBlock.toList++S0 P L1 M1 U) w3 bv r.2->Kp L.all W w2->Grew W L L1->Kp M.all w2 w3->RGrew w2 M M1->∀wX,Kp [] w3 wX->
  Calls Tryz.prog 65 #[.pointer (some ⟨P,0,none⟩),av,bv] wX fun e w'=>e= .returned (.bool true)/\As (Played U P L M cf WV r.1 (wayN ms r.2) w w')):=⟨fun w3 L1 M1 av bv w2 h3 oa ob k2 g2 k3 g3 wX kX=>by
  have hX:=(h3.kp (U2:=U) kX (by simp) (by simp) (fun x hx=> .inl hx)).pair
  have hj:=inv1.job
  refine(sent_any U wX P L1 M1 cf r.1 WV av bv ms r.2 hX (oa.kp kX (by simp) (fun x hx=> .inl hx)) (ob.kp kX (by simp) (fun x hx=> .inl hx)) hms (by omega) (by omega)).mono ?_
  rintro e w' ⟨rfl,WV',h6,k6,g6⟩
  have s01:=kW.size
  have s12:=k2.size
  have s23:=k3.size
  have s3X:=kX.size
  have k02:Kp (P::(L.all++(M.all++WV.ownBlock.toList))) w w2:=(kW.mono (by simp)).trans k2 (fun x hx=> .inl (by simp[hx]))
  have k03:=k02.trans k3 (fun x hx=> .inl (by simp[hx]))
  have k0X:=k03.trans kX (by simp)
  refine⟨rfl,⟨L1,M1,WV',h6,k0X.trans k6 (fun x hx=> .inl (by
   simp only[List.mem_cons,List.mem_append] at hx⊢
   rcases hx with e|e
   ·exact .inl e
   ·exact .inr (.inr (.inr e)))),fun x hx=> ?_⟩⟩
  simp only[List.mem_append] at hx⊢
  rcases hx with e|e|e
  ·exact(g2.2 x e).imp (fun e=> .inl e) (fun e=>by omega)
  ·exact(g3.2 x e).imp (fun e=> .inr (.inl e)) (fun e=>by omega)
  ·exact(g6 x (by simpa using e)).imp (fun e=> .inr (.inr (by simpa using e))) (fun e=>by omega)⟩
 clear hrl inv1 hr hPW hdon hjob hctx hb h inv
 unfold actObj at hW
 go_enter Tryz.func20,Tryz.ntmps20
 go_upto_region 21 with fail
 try rw[hW]
 clear hW
 go_cut [4] from 128 to 139 (fun v4 wx=>v4= .bool true/\As (Played U P L M cf WV r.1 (wayN ms r.2) w wx))
 case first=>
  go_region_law (first
   |(go_simp;go_at_call 11;refine(HP.out _ (by first|exact Kp.refl _ _|exact(Kp.refl [] W).drewN _)).mono ?_;rintro e w2 ⟨av,rfl,x1,HZ⟩;obtain⟨L1,hz⟩:=HZ.out;have HX1:=As.mk (fun wX kX=>HX.out w2 L1 av hz.1 hz.2.1 wX kX);have HZ:=As.mk hz;clear hz)
   |(go_simp;go_at_call 66;refine(HX1.out _ (by first|exact Kp.refl _ _|exact(Kp.refl [] _).drewN _)).mono ?_;rintro e w3 ⟨bv,rfl,HY⟩;obtain⟨M1,hy⟩:=HY.out;have HS1:=As.mk (fun wX kX=>HS.out w3 L1 M1 av bv w2 hy.1 hy.2.1 hy.2.2.1 HZ.out.2.2.1 HZ.out.2.2.2 hy.2.2.2.1 hy.2.2.2.2 wX kX);clear hy)
   |(go_simp;go_at_call 65;refine(HS1.out _ (by first|exact Kp.refl _ _|exact(Kp.refl [] _).drewN _)).mono ?_;rintro e w6 ⟨rfl,HQ⟩))
  all_goals
   go_wp2_with fail
   go_meet
   exact⟨rfl,HQ⟩
 case rest=>
  obtain⟨rfl,HQ⟩:=hcut
  go_wp2_with fail
  go_ret
  exact⟨rfl,HQ.out⟩
end Go.Proofs.YtdiljpdohmeceaaGreat.co
