/- Words and walks that this claim rests on: proved lemmas alone. -/
import Derived.Test.YtdiljpdohmeceaaGreatZ38
set_option maxHeartbeats 16000000
set_option maxRecDepth 100000
namespace Go.Proofs.YtdiljpdohmeceaaGreat.co
open Go.RowKit H O opk frame wir
open cr (RLay RsSt RNewJ RGrew Dis)
theorem does_put(U:List Nat)(w:World)(P:Nat)(L:Lay)(M:RLay)(cf:Cfg)(s:Cs)(WV:Value)(ms:List Msg)(k:Nat)(an er hi wh fr:Int)(key:ByteArray)(A:Option Addr)(n c:Nat)(xs:List Int)(MV:Value)(h:PairW U w P L M cf s WV ms)(inv:PInv cf s k)(hk:k<=10000)(hn:xs.length=n)(hd:BSl (S0 P L M U) w (.slice A n c) xs)(hw:Wf xs)(hm:n<=40000):
 Calls Tryz.prog 20 #[.pointer (some ⟨P,0,none⟩),.agg #[.int .i64 1,.int .i64 an,.int .i64 er,.int .i64 hi,.int .i64 wh,.int .i64 fr,.string key,.slice A n c,MV]] w fun e w'=>e= .returned (.bool true)/\Played U P L M cf WV ((putR s key xs).2.2) ms w w':=by
 obtain⟨W,hW⟩:∃W,w.alloc (actObj 1 an er hi wh fr key (.slice A n c) MV)=W:=⟨_,rfl⟩
 have kW:Kp [] w W:=by rw[<-hW];exact(Kp.refl [] w).alloc _
 obtain⟨mb,hmb⟩:∃mb,w.heap.size=mb:=⟨_,rfl⟩
 have hb:W.heap[mb]?=some (actObj 1 an er hi wh fr key (.slice A n c) MV):=by rw[<-hW,<-hmb];exact heap_alloc_new w _
 have sW:W.heap.size=mb+1:=by rw[<-hW,World.size_alloc,hmb]
 have a0:=bkc hb 0 rfl
 have a7:W.cell? ⟨mb,7,none⟩=some (.slice A n c):=bkc hb 7 rfl
 have a6:W.cell? ⟨mb,6,none⟩=some (.string key):=bkc hb 6 rfl
 obtain⟨A',c',e',rdd,hnc,hc9,hnil⟩:=id hd
 obtain⟨rfl,hnx,rfl⟩:=Value.slice.inj e'
 clear hnx e'
 rw[hn] at hnc
 have hinv1:=inv.put (key:=key) (xs:=xs) hw
 obtain⟨s1,hs1⟩:∃s1,(putR s key xs).2.2=s1:=⟨_,rfl⟩
 rw[hs1] at hinv1⊢
 have hlt:=h.prs.lt
 have hdW:=hd.kp (S2:=S0 P L M U) kW (by simp) (fun x hx=> .inl hx)
 have hPW:=h.prs.kp (U2:=U) kW (by simp) (by simp) (fun x hx=> .inl hx)
 have hPlt:P<mb:=by rw[<-hmb];exact hlt P (List.mem_append.2 (.inr (by simp[S0])))
 have hLlt:∀x∈L.all,x<mb:=fun x hx=>by rw[<-hmb];exact hlt x (List.mem_append.2 (.inr (by simp[S0,hx])))
 have hMlt:∀x∈M.all,x<mb:=fun x hx=>by rw[<-hmb];exact hlt x (List.mem_append.2 (.inr (by simp[S0,hx])))
 have hdon:=inv.don
 have hjob:=inv.job
 have hjob1:=hinv1.job
 have hnj:nextJ s<=900000:=by show s.ended+s.jobs.length<=_;omega
 obtain⟨v,z,hfc,hfx⟩:∃v z:Int,(∀(UU:List Nat) (wX:World) (B:Option Addr) (cB:Nat),CoSt UU wX L cf s->Rd wX B (iv .u8 xs)->(B=none->cB=0)->Calls Tryz.prog 9 #[.pointer (some ⟨L.b,0,none⟩),.string key,.slice B n cB] wX (NewJ UU L cf v z s1 wX))/\
  (∀(UU:List Nat) (wX:World),RsSt UU wX M cf s->Rd wX A (iv .u8 xs)->Calls Tryz.prog 59 #[.pointer (some ⟨M.b,0,none⟩),.string key,.slice A n c] wX (RNewJ UU M cf v z s1 wX)):=by
  refine⟨(putR s key xs).1,(putR s key xs).2.1,fun UU wX B cB hC hr h0=> ?_,fun UU wX hC hr=> ?_⟩
  ·have:=put_any UU wX L cf s key B n cB xs hC inv.ok hnj hn hr h0 (by omega)
   rw[hs1] at this
   exact this
  ·have:=cr.put_any UU wX M cf s key A n c xs hC hnj hn hr hnil (by omega)
   rw[hs1] at this
   exact this
 have HRM:As (Calls Tryz.prog 57 #[.slice A n c] W fun e w1=>∃g1 c1,e= .returned (.slice (some ⟨g1,0,none⟩) (n+1) c1)/\n+1<=c1/\As (Own 5 .u8 w1 W.heap.size (.slice (some ⟨g1,0,none⟩) (n+1) c1) (xs++[171])/\Kp [] W w1)):=⟨by
  refine(haystacklaw24.roomy_any A n c xs W hn (kW.rd_new rdd.rd (by simp)) hnil (by omega)).mono ?_
  rintro e w1 ⟨v,rfl,o,kk⟩
  have ol:(xs++[171]).length=n+1:=by simp[hn]
  have o1:=o.1
  rw[ol] at o1
  obtain⟨g1,c1,rfl,q1,q2⟩:=own_form o1 (by omega)
  exact⟨g1,c1,rfl,by omega,⟨o,kk⟩⟩⟩
 have HP:As (∀w1 g1 c1,n+1<=c1->Own 5 .u8 w1 W.heap.size (.slice (some ⟨g1,0,none⟩) (n+1) c1) (xs++[171])->Kp [] W w1->∀wX,Kp [] w1 wX->
  Calls Tryz.prog 9 #[.pointer (some ⟨L.b,0,none⟩),.string key,.slice (some ⟨g1,0,none⟩) n c1] wX fun e w2=>e= .returned (.tuple #[.int .i64 v,.int .i64 z])/\
   As (∃L1,PrS (g1::U) w2 P L1 M cf s1 s WV ms/\Kp L.all w1 w2/\Grew w1 L L1/\BSl (S0 P L1 M (g1::U)) w2 (.slice A n c) xs)):=⟨by
  intro w1 g1 c1 hc1 o1 k1 wX kX
  have kwX:Kp [] w wX:=(kW.trans k1 (by simp)).trans kX (by simp)
  have hg1:=o1.2 g1 rfl
  have hg2:=own_lt o1.1 g1 rfl
  have sX:=kX.size
  have hX:=h.prs.kp (U2:=g1::U) kwX (by simp) (by simp) (fun x hx=>by
   rcases List.mem_cons.1 hx with e|e
   ·exact .inr (by omega)
   ·exact .inl e)
  have rd1:Rd wX (some ⟨g1,0,none⟩) (iv .u8 xs):=by
   obtain⟨B9,d9,e9,_,_,rr,_⟩:=own_rd o1.1
   obtain⟨rfl,_,rfl⟩:=Value.slice.inj e9
   have h9:=kX.rd rr (fun _ _=>by simp)
   rw[iv_app] at h9
   exact h9.app
  refine(hfc _ wX _ c1 hX.pr.c rd1 (fun e=>by cases e)).mono ?_
  rintro e w2 ⟨rfl,L1,q1,q3,q4⟩
  exact⟨rfl,⟨L1,hX.prog q1 q3 q4,(kX.mono (by simp)).trans q4 (fun x hx=> .inl hx),q3.le sX,(hdW.kp (S2:=S0 P L M (g1::U)) (k1.trans kX (by simp)) (by simp) (fun x hx=>by
   unfold S0 at hx⊢
   simp only[List.mem_cons,List.mem_append] at hx⊢
   rcases hx with e|e|e|e|e
   ·exact .inl (.inl e)
   ·exact .inl (.inr (.inl e))
   ·exact .inl (.inr (.inr (.inl e)))
   ·exact .inr (by omega)
   ·exact .inl (.inr (.inr (.inr e))))).prog q3 q4⟩⟩⟩
 have HX:As (∀w1 g1 c1 w2 L1,Own 5 .u8 w1 W.heap.size (.slice (some ⟨g1,0,none⟩) (n+1) c1) (xs++[171])->Kp [] W w1->PrS (g1::U) w2 P L1 M cf s1 s WV ms->Kp L.all w1 w2->Grew w1 L L1->BSl (S0 P L1 M (g1::U)) w2 (.slice A n c) xs->
  (∀wX,Kp [] w2 wX->Calls Tryz.prog 58 #[.slice (some ⟨g1,0,none⟩) (n+1) c1] wX fun e w3=>e= .returned (.tuple #[])/\w3.cell? ⟨P,1,none⟩=some (.pointer (some ⟨M.b,0,none⟩))/\w3.cell? ⟨mb,7,none⟩=some (.slice A n c)/\w3.cell? ⟨mb,6,none⟩=some (.string key)/\
   As (∀wY,Kp [] w3 wY->Calls Tryz.prog 59 #[.pointer (some ⟨M.b,0,none⟩),.string key,.slice A n c] wY fun e w4=>e= .returned (.tuple #[.int .i64 v,.int .i64 z])/\w4.cell? ⟨P,0,none⟩=some (.pointer (some ⟨L1.b,0,none⟩))/\∃Mb,w4.cell? ⟨P,1,none⟩=some (.pointer (some ⟨Mb,0,none⟩))/\As (∃M1,M1.b=Mb/\Ends1 U w P L M cf WV ms s1 w4 L1 M1)))):=⟨by
  intro w1 g1 c1 w2 L1 o1 k1 hps k12 g12 hbs wX kX
  have hg1:=o1.2 g1 rfl
  have hgn:∀x,x∈L.all\/x∈M.all->x≠g1:=fun x hx e=>by
   rcases hx with e2|e2
   ·have:=hLlt x e2;omega
   ·have:=hMlt x e2;omega
  have o2:Own 5 .u8 w2 W.heap.size (.slice (some ⟨g1,0,none⟩) (n+1) c1) (xs++[171]):=o1.kp k12 (fun g e hm=>hgn g (.inl hm) (by simpa [Value.ownBlock] using e.symm))
  have ol:=o2.len
  have oX:=(o2.kp kX (by simp)).1
  rw[ol] at oX
  refine(haystacklaw24.spoil_any _ (n+1) _ wX oX (by omega)).mono ?_
  rintro e w3 ⟨rfl,k3⟩
  have k23:Kp [g1] w2 w3:=(kX.mono (by simp)).trans k3 (fun x hx=> .inl (by simpa [Value.ownBlock] using hx))
  have hPg:P∉[g1]:=by simp;omega
  have h3:=hps.kp (U2:=g1::U) k23 (fun x hx=> .inl (by simp at hx;simp[hx])) hPg (fun x hx=> .inl hx)
  have hb3:=k23.blk (k12.blk (k1.blk hb (by simp)) (fun hm=>by have:=hLlt _ hm;omega)) (by simp;omega)
  have hd3:=hbs.kp (S2:=S0 P L1 M (g1::U)) k23 (fun x hx=> .inl (by simp at hx;simp[hx,S0])) (fun x hx=> .inl hx)
  refine⟨rfl,bkc h3.pr.hd 1 rfl,bkc hb3 7 rfl,bkc hb3 6 rfl,⟨fun wY kY=> ?_⟩⟩
  have hY:=h3.kp (U2:=g1::U) kY (by simp) (by simp) (fun x hx=> .inl hx)
  have rdY:Rd wY A (iv .u8 xs):=by
   obtain⟨B9,d9,e9,rr,_⟩:=hd3.kp (S2:=[]) kY (by simp) (by simp)
   obtain⟨rfl,_,rfl⟩:=Value.slice.inj e9
   exact rr.rd
  refine(hfx _ wY hY.pr.x rdY).mono ?_
  rintro e w4 ⟨rfl,M1,q1,q3,q4⟩
  have h4:=hY.docu q1 q3 q4
  have s01:=kW.size
  have s1:=k1.size
  have s12:=k12.size
  have s23:=k23.size
  have s3Y:=kY.size
  have k02:Kp (P::(L.all++(M.all++WV.ownBlock.toList))) w w2:=((kW.trans k1 (by simp)).mono (by simp)).trans k12 (fun x hx=> .inl (by simp[hx]))
  have k0Y:=(k02.trans k23 (fun x hx=> .inr (by simp at hx;omega))).trans kY (by simp)
  refine⟨rfl,bkc h4.pr.hd 0 rfl,M1.b,bkc h4.pr.hd 1 rfl,⟨M1,rfl,h4.kp (U2:=U) (Kp.refl [] w4) (by simp) (by simp) (fun x hx=> .inl (by simp[hx])),k0Y.trans q4 (fun x hx=> .inl (by simp[hx])),fun x hx=> ?_⟩⟩
  simp only[List.mem_append] at hx⊢
  rcases hx with e|e|e
  ·exact(g12.2 x e).imp (fun e=> .inl e) (fun e=>by omega)
  ·exact(q3.2 x e).imp (fun e=> .inr (.inl e)) (fun e=>by omega)
  ·exact .inl (.inr (.inr e))⟩
 obtain⟨nj,hnj2⟩:∃nj,s1.jobs.length=nj:=⟨_,rfl⟩
 have HL:As (∀w4 L1 M1,Ends1 U w P L M cf WV ms s1 w4 L1 M1->∀wX,Kp [] w4 wX->Calls Tryz.prog 10 #[.pointer (some ⟨L1.b,0,none⟩)] wX (fun e w'=>e= .returned (.int .i64 (nj:Int))/\w'=wX)/\
  Calls Tryz.prog 69 #[.pointer (some ⟨M1.b,0,none⟩)] wX (fun e w'=>e= .returned (.int .i64 (nj:Int))/\∃q,w'=wX.drewN q)):=⟨fun w4 L1 M1 h4 wX kX=>by
  have hX:=h4.pr.kp (U2:=U) kX (by simp) (by simp) (fun x hx=> .inl hx)
  rw[<-hnj2]
  exact⟨left_any _ wX L1 cf s1 hX.pr.c,cr.left_any _ wX M1 cf s1 hX.pr.x (by omega)⟩⟩
 have p0:=bkc hPW.pr.hd 0 rfl
 have i1:(n:Int)<=(n:Int)+1:=by omega
 clear hnj2 hfc hfx hnj hjob1 hjob hdon hPW hdW hlt hinv1 hs1 rdd hb h inv hd hn hMlt hLlt
 unfold actObj at hW
 go_enter Tryz.func20,Tryz.ntmps20
 go_upto_region 6 with(go_at_call 57;refine HRM.out.mono ?_;rintro e w1 ⟨g1,c1,rfl,hc1,HR⟩;clear HRM)
 have HC1:=As.mk (fun wX kX=>HP.out w1 g1 c1 hc1 HR.out.1 HR.out.2 wX kX)
 have p0:=HR.out.2.cell p0 (by simp)
 have a7:=HR.out.2.cell a7 (by simp)
 have a6:=HR.out.2.cell a6 (by simp)
 have i2:(n:Int)<=(c1:Int):=by omega
 clear HP hW a0
 go_cut [5,8] from 23 to 37 (fun v5 v8 wx=>∃w2,w2=wx/\v5= .int .i64 v/\v8= .int .i64 z/\As (∃L1,PrS (g1::U) w2 P L1 M cf s1 s WV ms/\Kp L.all w1 w2/\Grew w1 L L1/\BSl (S0 P L1 M (g1::U)) w2 (.slice A n c) xs))
 case first=>
  go_region_law (go_simp;go_at_call 9;refine(HC1.out _ (by first|exact Kp.refl _ _|exact(Kp.refl [] w1).drewN _)).mono ?_;rintro e w2 ⟨rfl,HZ⟩)
  all_goals
   go_wp2_with fail
   go_meet
   exact⟨_,rfl,rfl,rfl,HZ⟩
 case rest=>
  obtain⟨w2,rfl,rfl,rfl,HZ⟩:=hcut
  obtain⟨L1,hz⟩:=HZ.out
  have HS1:=As.mk (fun wX kX=>HX.out w1 g1 c1 w2 L1 HR.out.1 HR.out.2 hz.1 hz.2.1 hz.2.2.1 hz.2.2.2 wX kX)
  clear hz HX HC1 p0 a7 a6 i1 i2 HZ
  go_upto_region 8 with(go_at_call 58;refine(HS1.out _ (by first|exact Kp.refl _ _|exact(Kp.refl [] w2).drewN _)).mono ?_;rintro e w3 ⟨rfl,p1,a7,a6,HF⟩;clear HS1)
  go_region_law (go_simp;go_at_call 59;refine(HF.out _ (by first|exact Kp.refl _ _|exact(Kp.refl [] w3).drewN _)).mono ?_;rintro e w4 ⟨rfl,q0,Mb,q1,HE⟩)
  all_goals
   obtain⟨M1,rfl,he⟩:=HE.out
   have HA:=As.mk (fun wX kX=>(HL.out w4 L1 M1 he wX kX).1)
   have HB:=As.mk (fun wX kX=>(HL.out w4 L1 M1 he wX kX).2)
   have HE1:=As.mk he
   clear he HF p1 a7 a6 HL
   go_upto_region 33 with fail
   go_quiet (first
    |(go_at_call 10;refine Calls.quiet_of_same (HA.out _ (by first|exact Kp.refl _ _|exact(Kp.refl [] w4).drewN _)))
    |(go_at_call 69;refine Calls.quiet_of (HB.out _ (by first|exact Kp.refl _ _|exact(Kp.refl [] w4).drewN _))))
   go_wp2_with fail
   go_ret
   exact⟨rfl,HE1.out.played ((Kp.refl [] w4).drewN _)⟩
end Go.Proofs.YtdiljpdohmeceaaGreat.co
