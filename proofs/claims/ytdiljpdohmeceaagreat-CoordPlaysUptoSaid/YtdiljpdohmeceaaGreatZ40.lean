/- Words and walks that this claim rests on: proved lemmas alone. -/
import Derived.Test.YtdiljpdohmeceaaGreatZ38
set_option maxHeartbeats 16000000
set_option maxRecDepth 100000
namespace Go.Proofs.YtdiljpdohmeceaaGreat.co
open Go.RowKit H O opk frame wir
open cr (RLay RsSt RNewJ RGrew Dis)
theorem does_delete_any(U:List Nat)(w:World)(P:Nat)(L:Lay)(M:RLay)(cf:Cfg)(s:Cs)(WV:Value)(ms:List Msg)(k:Nat)(an er hi wh fr:Int)(key:ByteArray)(BV MV:Value)(h:PairW U w P L M cf s WV ms)(inv:PInv cf s k)(hk:k<=10000):
 Calls Tryz.prog 20 #[.pointer (some ⟨P,0,none⟩),.agg #[.int .i64 2,.int .i64 an,.int .i64 er,.int .i64 hi,.int .i64 wh,.int .i64 fr,.string key,BV,MV]] w fun e w'=>e= .returned (.bool true)/\Played U P L M cf WV (keyS s key (jDel key)) ms w w':=by
 obtain⟨W,hW⟩:∃W,w.alloc (actObj 2 an er hi wh fr key BV MV)=W:=⟨_,rfl⟩
 have kW:Kp [] w W:=by rw[<-hW];exact(Kp.refl [] w).alloc _
 obtain⟨mb,hmb⟩:∃mb,w.heap.size=mb:=⟨_,rfl⟩
 have hb:W.heap[mb]?=some (actObj 2 an er hi wh fr key BV MV):=by rw[<-hW,<-hmb];exact heap_alloc_new w _
 have sW:W.heap.size=mb+1:=by rw[<-hW,World.size_alloc,hmb]
 have a0:=bkc hb 0 rfl
 have a6:W.cell? ⟨mb,6,none⟩=some (.string key):=bkc hb 6 rfl
 have hinv1:=inv.key (key:=key) (j:=jDel key) (by show 1<=2/\2<=4;omega) rfl rfl
 obtain⟨s1,hs1⟩:∃s1,keyS s key (jDel key)=s1:=⟨_,rfl⟩
 rw[hs1] at hinv1⊢
 have hlt:=h.prs.lt
 have hPW:=h.prs.kp (U2:=U) kW (by simp) (by simp) (fun x hx=> .inl hx)
 have hPlt:P<mb:=by rw[<-hmb];exact hlt P (List.mem_append.2 (.inr (by simp[S0])))
 have hLlt:∀x∈L.all,x<mb:=fun x hx=>by rw[<-hmb];exact hlt x (List.mem_append.2 (.inr (by simp[S0,hx])))
 have hMlt:∀x∈M.all,x<mb:=fun x hx=>by rw[<-hmb];exact hlt x (List.mem_append.2 (.inr (by simp[S0,hx])))
 have hdon:=inv.don
 have hjob:=inv.job
 have hjob1:=hinv1.job
 have hnj:nextJ s<=900000:=by show s.ended+s.jobs.length<=_;omega
 obtain⟨v,z,hfc,hfx⟩:∃v z:Int,(∀(UU:List Nat) (wX:World),CoSt UU wX L cf s->Calls Tryz.prog 60 #[.pointer (some ⟨L.b,0,none⟩),.string key] wX (NewJ UU L cf v z s1 wX))/\
  (∀(UU:List Nat) (wX:World),RsSt UU wX M cf s->Calls Tryz.prog 61 #[.pointer (some ⟨M.b,0,none⟩),.string key] wX (RNewJ UU M cf v z s1 wX)):=by
  by_cases hl:1<=key.size/\key.size<=64
  ·have e:keyS s key (jDel key)=gives s (jDel key):=by rw[keyS,if_pos hl]
   rw[hs1] at e
   refine⟨nextJ s,0,fun UU wX hC=> ?_,fun UU wX hC=> ?_⟩
   ·have:=delete_any UU wX L cf s key hC inv.ok hnj
    rw[if_pos hl,<-e] at this
    exact this
   ·have:=cr.delete_any UU wX M cf s key hC hnj
    rw[if_pos hl,<-e] at this
    exact this
  ·have e:keyS s key (jDel key)=s:=by rw[keyS,if_neg hl]
   rw[hs1] at e
   refine⟨0,1,fun UU wX hC=> ?_,fun UU wX hC=> ?_⟩
   ·have:=delete_any UU wX L cf s key hC inv.ok hnj
    rw[if_neg hl] at this
    rw[e]
    exact this
   ·have:=cr.delete_any UU wX M cf s key hC hnj
    rw[if_neg hl] at this
    rw[e]
    exact this
 have HP:As (∀wX,Kp [] W wX->
  Calls Tryz.prog 60 #[.pointer (some ⟨L.b,0,none⟩),.string key] wX fun e w2=>e= .returned (.tuple #[.int .i64 v,.int .i64 z])/\w2.cell? ⟨P,1,none⟩=some (.pointer (some ⟨M.b,0,none⟩))/\w2.cell? ⟨mb,6,none⟩=some (.string key)/\
   As (∃L1,PrS U w2 P L1 M cf s1 s WV ms/\Kp L.all W w2/\Grew W L L1)):=⟨by
  intro wX kX
  have hX:=hPW.kp (U2:=U) kX (by simp) (by simp) (fun x hx=> .inl hx)
  refine(hfc _ wX hX.pr.c).mono ?_
  rintro e w2 ⟨rfl,L1,q1,q3,q4⟩
  have hp2:=hX.prog q1 q3 q4
  have hb2:=q4.blk (kX.blk hb (by simp)) (fun hm=>by have:=hLlt _ hm;omega)
  exact⟨rfl,bkc hp2.pr.hd 1 rfl,bkc hb2 6 rfl,⟨L1,hp2,(kX.mono (by simp)).trans q4 (fun x hx=> .inl hx),q3.le kX.size⟩⟩⟩
 have HX:As (∀w2 L1,PrS U w2 P L1 M cf s1 s WV ms->Kp L.all W w2->Grew W L L1->∀wY,Kp [] w2 wY->Calls Tryz.prog 61 #[.pointer (some ⟨M.b,0,none⟩),.string key] wY fun e w4=>e= .returned (.tuple #[.int .i64 v,.int .i64 z])/\w4.cell? ⟨P,0,none⟩=some (.pointer (some ⟨L1.b,0,none⟩))/\∃Mb,w4.cell? ⟨P,1,none⟩=some (.pointer (some ⟨Mb,0,none⟩))/\As (∃M1,M1.b=Mb/\Ends1 U w P L M cf WV ms s1 w4 L1 M1)):=⟨by
  intro w2 L1 hps k12 g12 wY kY
  have hY:=hps.kp (U2:=U) kY (by simp) (by simp) (fun x hx=> .inl hx)
  refine(hfx _ wY hY.pr.x).mono ?_
  rintro e w4 ⟨rfl,M1,q1,q3,q4⟩
  have h4:=hY.docu q1 q3 q4
  have s01:=kW.size
  have s12:=k12.size
  have s3Y:=kY.size
  have k02:Kp (P::(L.all++(M.all++WV.ownBlock.toList))) w w2:=(kW.mono (by simp)).trans k12 (fun x hx=> .inl (by simp[hx]))
  have k0Y:=k02.trans kY (by simp)
  refine⟨rfl,bkc h4.pr.hd 0 rfl,M1.b,bkc h4.pr.hd 1 rfl,⟨M1,rfl,h4,k0Y.trans q4 (fun x hx=> .inl (by simp[hx])),fun x hx=> ?_⟩⟩
  simp only[List.mem_append] at hx⊢
  rcases hx with e|e|e
  ·exact(g12.2 x e).imp (fun e=> .inl e) (fun e=>by omega)
  ·exact(q3.2 x e).imp (fun e=> .inr (.inl e)) (fun e=>by omega)
  ·exact .inl (.inr (.inr e))⟩
 obtain⟨nj,hnj2⟩:∃nj,s1.jobs.length=nj:=⟨_,rfl⟩
 have HL:As (∀w4 L1 M1,Ends1 U w P L M cf WV ms s1 w4 L1 M1->∀wX,Kp [] w4 wX->Calls Tryz.prog 10 #[.pointer (some ⟨L1.b,0,none⟩)] wX (fun e w'=>e= .returned (.int .i64 (nj:Int))/\w'=wX)/\
  Calls Tryz.prog 69 #[.pointer (some ⟨M1.b,0,none⟩)] wX (fun e w'=>e= .returned (.int .i64 (nj:Int))/\∃q,w'=wX.drewN q)):=⟨fun w4 L1 M1 h4 wX kX=>by
  have hX:=h4.pr.kp (U2:=U) kX (by simp) (by simp) (fun x hx=> .inl hx)
  rw[<-hnj2]
  exact⟨left_any _ wX L1 cf s1 hX.pr.c,cr.left_any _ wX M1 cf s1 hX.pr.x (by omega)⟩⟩
 have p0:=bkc hPW.pr.hd 0 rfl
 clear hnj2 hfc hfx hnj hjob1 hjob hdon hPW hlt hinv1 hs1 hb h inv hMlt hLlt sW hPlt
 unfold actObj at hW
 go_enter Tryz.func20,Tryz.ntmps20
 go_upto_region 10 with fail
 try rw[hW]
 clear hW
 go_cut [5,8] from 54 to 63 (fun v5 v8 wx=>∃w2,w2=wx/\v5= .int .i64 v/\v8= .int .i64 z/\w2.cell? ⟨P,1,none⟩=some (.pointer (some ⟨M.b,0,none⟩))/\w2.cell? ⟨mb,6,none⟩=some (.string key)/\As (∃L1,PrS U w2 P L1 M cf s1 s WV ms/\Kp L.all W w2/\Grew W L L1))
 case first=>
  go_region_law (go_simp;go_at_call 60;refine(HP.out _ (by first|exact Kp.refl _ _|exact(Kp.refl [] W).drewN _)).mono ?_;rintro e w2 ⟨rfl,x1,x6,HZ⟩)
  all_goals
   go_wp2_with fail
   go_meet
   exact⟨_,rfl,rfl,rfl,x1,x6,HZ⟩
 case rest=>
  obtain⟨w2,rfl,rfl,rfl,x1,x6,HZ⟩:=hcut
  obtain⟨L1,hz⟩:=HZ.out
  have HF:=As.mk (fun wX kX=>HX.out w2 L1 hz.1 hz.2.1 hz.2.2 wX kX)
  clear hz HX HP a0 a6 p0 HZ
  go_upto_region 11 with fail
  go_region_law (go_simp;go_at_call 61;refine(HF.out _ (by first|exact Kp.refl _ _|exact(Kp.refl [] w2).drewN _)).mono ?_;rintro e w4 ⟨rfl,q0,Mb,q1,HE⟩)
  all_goals
   obtain⟨M1,rfl,he⟩:=HE.out
   have HA:=As.mk (fun wX kX=>(HL.out w4 L1 M1 he wX kX).1)
   have HB:=As.mk (fun wX kX=>(HL.out w4 L1 M1 he wX kX).2)
   have HE1:=As.mk he
   clear he HF x1 x6 HL
   go_upto_region 33 with fail
   go_quiet (first
    |(go_at_call 10;refine Calls.quiet_of_same (HA.out _ (by first|exact Kp.refl _ _|exact(Kp.refl [] w4).drewN _)))
    |(go_at_call 69;refine Calls.quiet_of (HB.out _ (by first|exact Kp.refl _ _|exact(Kp.refl [] w4).drewN _))))
   go_wp2_with fail
   go_ret
   exact⟨rfl,HE1.out.played ((Kp.refl [] w4).drewN _)⟩
end Go.Proofs.YtdiljpdohmeceaaGreat.co
