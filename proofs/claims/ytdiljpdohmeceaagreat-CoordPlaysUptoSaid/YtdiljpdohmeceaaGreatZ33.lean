/- Words and walks that this claim rests on: proved lemmas alone. -/
import Derived.Test.YtdiljpdohmeceaaGreatZ32
set_option maxHeartbeats 16000000
set_option maxRecDepth 100000
namespace Go.Proofs.YtdiljpdohmeceaaGreat.co
open Go.RowKit H O opk frame wir
open cr (RLay RsSt RNewJ RGrew Dis)
theorem hears_any(U:List Nat)(w:World)(P:Nat)(L:Lay)(M:RLay)(cf:Cfg)(s:Cs)(WV:Value)(ms:List Msg)(k:Nat)(frm dst:Int)(data:List Int)(A:Option Addr)(n c:Nat)(h:PairW U w P L M cf s WV ms)(inv:PInv cf s k)(hk:k<=10000)(h2:cf.shards.length<=2)(hms:ms.length<=60)(hn:data.length=n)(hd:BSl (S0 P L M U) w (.slice A n c) data)(hw:Wf data)(hm:n<=40000):
 Calls Tryz.prog 68 #[.pointer (some ⟨P,0,none⟩),.agg #[.int .i64 frm,.int .i64 dst,.slice A n c]] w fun e w'=>e= .returned (.bool true)/\Played U P L M cf WV (co.hear cf s ⟨frm,dst,data⟩).1 (wayN ms (co.hear cf s ⟨frm,dst,data⟩).2) w w':=by
 obtain⟨W,hW⟩:∃W,W=w.alloc (msgObj frm dst A n c):=⟨_,rfl⟩
 have kW:Kp [] w W:=by rw[hW];exact(Kp.refl [] w).alloc _
 have hb:W.heap[w.heap.size]?=some (msgObj frm dst A n c):=by rw[hW];exact heap_alloc_new w _
 obtain⟨mb,hmb⟩:∃mb,w.heap.size=mb:=⟨_,rfl⟩
 rw[hmb] at hb
 have m2:W.cell? ⟨mb,2,none⟩=some (.slice A n c):=bkc hb 2 rfl
 have sW:W.heap.size=mb+1:=by rw[hW,World.size_alloc,hmb]
 obtain⟨A',c',e',rdd,hnc,hc9,hnil⟩:=id hd
 rw[hn] at e'
 cases e'
 rw[hn] at hnc
 obtain⟨r,hr⟩:∃r,co.hear cf s ⟨frm,dst,data⟩=r:=⟨_,rfl⟩
 have hinv1:=inv.hear (m:=⟨frm,dst,data⟩) (by show data.length<=50000;omega)
 have HSUM:=As.mk (inv.sum (m:=⟨frm,dst,data⟩) h2 (by show data.length<=50000;omega))
 have hlt:=h.prs.lt
 have hdW:=hd.kp (S2:=S0 P L M U) kW (by simp) (fun x hx=> .inl hx)
 have hPW:=h.prs.kp (U2:=U) kW (by simp) (by simp) (fun x hx=> .inl hx)
 have hPlt:P<mb:=by rw[<-hmb];exact hlt P (List.mem_append.2 (.inr (by simp[S0])))
 have hLlt:∀x∈L.all,x<mb:=fun x hx=>by rw[<-hmb];exact hlt x (List.mem_append.2 (.inr (by simp[S0,hx])))
 have hMlt:∀x∈M.all,x<mb:=fun x hx=>by rw[<-hmb];exact hlt x (List.mem_append.2 (.inr (by simp[S0,hx])))
 have HRM:As (Calls Tryz.prog 57 #[.slice A n c] W fun e w1=>∃g1 c1,e= .returned (.slice (some ⟨g1,0,none⟩) (n+1) c1)/\n+1<=c1/\As (Own 5 .u8 w1 W.heap.size (.slice (some ⟨g1,0,none⟩) (n+1) c1) (data++[171])/\Kp [] W w1)):=⟨by
  refine(haystacklaw24.roomy_any A n c data W hn (kW.rd_new rdd.rd (by simp)) hnil (by omega)).mono ?_
  rintro e w1 ⟨v,rfl,o,kk⟩
  have ol:(data++[171]).length=n+1:=by simp[hn]
  have o1:=o.1
  rw[ol] at o1
  obtain⟨g1,c1,rfl,q1,q2⟩:=own_form o1 (by omega)
  exact⟨g1,c1,rfl,by omega,⟨o,kk⟩⟩⟩
 have HP:As (∀w1 g1 c1,n+1<=c1->Own 5 .u8 w1 W.heap.size (.slice (some ⟨g1,0,none⟩) (n+1) c1) (data++[171])->Kp [] W w1->∀wX,Kp [] w1 wX->
  Calls Tryz.prog 17 #[.pointer (some ⟨L.b,0,none⟩),.agg #[.int .i64 frm,.int .i64 dst,.slice (some ⟨g1,0,none⟩) n c1]] wX fun e w2=>∃av,e= .returned av/\w2.cell? ⟨P,1,none⟩=some (.pointer (some ⟨M.b,0,none⟩))/\w2.cell? ⟨mb,0,none⟩=some (.int .i64 frm)/\w2.cell? ⟨mb,1,none⟩=some (.int .i64 dst)/\w2.cell? ⟨mb,2,none⟩=some (.slice A n c)/\
   As (∃L1,PrS (g1::U) w2 P L1 M cf r.1 s WV ms/\OutI (WV.ownBlock.toList++S0 P L1 M (g1::U)) w2 av r.2/\Kp L.all w1 w2/\Grew w1 L L1/\BSl (S0 P L1 M U) w2 (.slice A n c) data)):=⟨by
  intro w1 g1 c1 hc1 o1 k1 wX kX
  have kwX:Kp [] w wX:=(kW.trans k1 (by simp)).trans kX (by simp)
  have hg1:=o1.2 g1 rfl
  have hg2:=own_lt o1.1 g1 rfl
  have sX:=kX.size
  have hX:=h.prs.kp (U2:=g1::U) kwX (by simp) (by simp) (fun x hx=>by
   rcases List.mem_cons.1 hx with e|e
   ·exact .inr (by omega)
   ·exact .inl e)
  have rd1:Rd wX (some ⟨g1,0,none⟩) (iv .u8 data):=by
   obtain⟨B9,d9,e9,_,_,rr,_⟩:=own_rd o1.1
   obtain⟨rfl,_,rfl⟩:=Value.slice.inj e9
   have h9:=kX.rd rr (fun _ _=>by simp)
   rw[iv_app] at h9
   exact h9.app
  have hdon:=inv.don
  have hjob:=inv.job
  have hc:=co.hear_any (P::(M.all++(WV.ownBlock.toList++(g1::U)))) wX L cf s ⟨frm,dst,data⟩ (some ⟨g1,0,none⟩) n c1 hX.pr.c inv.ok inv.ho (by omega) hn rd1 (by omega) hw (by omega)
  rw[hr] at hc
  refine hc.mono ?_
  rintro e w2 ⟨L1,av,rfl,q1,q2,q3,q4⟩
  have hp2:=hX.prog q1 q3 q4
  have hb2:=q4.blk (kX.blk (k1.blk hb (by simp)) (by simp)) (fun hm=>by have:=hLlt _ hm;omega)
  exact⟨av,rfl,bkc hp2.pr.hd 1 rfl,bkc hb2 0 rfl,bkc hb2 1 rfl,bkc hb2 2 rfl,⟨L1,hp2,q2.prog,(kX.mono (by simp)).trans q4 (fun x hx=> .inl hx),⟨q3.1,fun x hx=>(q3.2 x hx).imp id (fun e=>Nat.le_trans sX e)⟩,(hdW.kp (S2:=S0 P L M U) (k1.trans kX (by simp)) (by simp) (fun x hx=> .inl hx)).prog q3 q4⟩⟩⟩
 have HX:As (∀w1 g1 c1 w2 L1 av,Own 5 .u8 w1 W.heap.size (.slice (some ⟨g1,0,none⟩) (n+1) c1) (data++[171])->Kp [] W w1->PrS (g1::U) w2 P L1 M cf r.1 s WV ms->OutI (WV.ownBlock.toList++S0 P L1 M (g1::U)) w2 av r.2->Kp L.all w1 w2->BSl (S0 P L1 M U) w2 (.slice A n c) data->∀wX,Kp [] w2 wX->
  Calls Tryz.prog 101 #[.pointer (some ⟨M.b,0,none⟩),.agg #[.int .i64 frm,.int .i64 dst,.slice A n c]] wX fun e w3=>∃bv,e= .returned bv/\w3.cell? ⟨mb,2,none⟩=some (.slice A n c)/\
   As (∃M1,PrS (g1::U) w3 P L1 M1 cf r.1 r.1 WV ms/\OutI (WV.ownBlock.toList++S0 P L1 M1 (g1::U)) w3 av r.2/\OutI (WV.ownBlock.toList++S0 P L1 M1 (g1::U)) w3 bv r.2/\Kp M.all w2 w3/\RGrew w2 M M1/\BSl (S0 P L1 M1 U) w3 (.slice A n c) data)):=⟨by
  intro w1 g1 c1 w2 L1 av o1 k1 hps ha k12 hbs wX kX
  have hX:=hps.kp (U2:=g1::U) kX (by simp) (by simp) (fun x hx=> .inl hx)
  have hbX:=hbs.kp (S2:=S0 P L1 M U) kX (by simp) (fun x hx=> .inl hx)
  have rd1:Rd wX A (iv .u8 data):=by
   obtain⟨B9,d9,e9,rr,_⟩:=id hbX
   obtain⟨rfl,_,rfl⟩:=Value.slice.inj e9
   exact rr.rd
  have hdon:=inv.don
  have hjob:=inv.job
  have hc:=cr.hear_any (P::(L1.all++(WV.ownBlock.toList++(g1::U)))) wX M cf s ⟨frm,dst,data⟩ A n c hX.pr.x inv.ok inv.ho (by omega) (by omega) inv.dis HSUM.out hn rd1 hnc hw (by omega)
  rw[hr] at hc
  refine hc.mono ?_
  rintro e w3 ⟨M1,bv,rfl,q1,q2,q3,q4⟩
  have hb2:=q4.blk (kX.blk (k12.blk (k1.blk hb (by simp)) (fun hm=>by have:=hLlt _ hm;omega)) (by simp)) (fun hm=>by have:=hMlt _ hm;omega)
  exact⟨bv,rfl,bkc hb2 2 rfl,⟨M1,hX.docu q1 q3 q4,(ha.kp kX (by simp) (fun x hx=> .inl hx)).behind q3 q4,q2.docu,(kX.mono (by simp)).trans q4 (fun x hx=> .inl hx),⟨q3.1,fun x hx=>(q3.2 x hx).imp id (fun e=>Nat.le_trans kX.size e)⟩,hbX.docu q3 q4⟩⟩⟩
 have p0:=bkc hPW.pr.hd 0 rfl
 have m0:W.cell? ⟨mb,0,none⟩=some (.int .i64 frm):=bkc hb 0 rfl
 have m1:W.cell? ⟨mb,1,none⟩=some (.int .i64 dst):=bkc hb 1 rfl
 have HH:=As.mk h
 rw[hr] at hinv1⊢
 have HI:=As.mk hinv1
 have HMB:=As.mk hmb
 have i1:(n:Int)<=(n:Int)+1:=by omega
 clear hinv1 h inv hd hdW hPW hb rdd hr hn
 rw[hmb] at hlt
 clear hlt
 unfold msgObj at hW
 go_enter Tryz.func68,Tryz.ntmps68
 clear hmb
 go_upto_region 1 with fail
 rw[<-hW,HMB.out]
 clear hW
 go_upto_region 2 with(go_at_call 57;refine HRM.out.mono ?_;rintro e w1 ⟨g1,c1,rfl,hc1,HR⟩;clear HRM)
 have HC1:=As.mk (fun wX kX=>HP.out w1 g1 c1 hc1 HR.out.1 HR.out.2 wX kX)
 have p0:=HR.out.2.cell p0 (by simp)
 have m0:=HR.out.2.cell m0 (by simp)
 have m1:=HR.out.2.cell m1 (by simp)
 have m2:=HR.out.2.cell m2 (by simp)
 have i2:(n:Int)<=(c1:Int):=by omega
 clear HP
 go_cut [6] from 12 to 26 (fun v6 wx=>∃w2 av,w2=wx/\av=v6/\w2.cell? ⟨P,1,none⟩=some (.pointer (some ⟨M.b,0,none⟩))/\w2.cell? ⟨mb,0,none⟩=some (.int .i64 frm)/\w2.cell? ⟨mb,1,none⟩=some (.int .i64 dst)/\w2.cell? ⟨mb,2,none⟩=some (.slice A n c)/\
  As (∃L1,PrS (g1::U) w2 P L1 M cf r.1 s WV ms/\OutI (WV.ownBlock.toList++S0 P L1 M (g1::U)) w2 av r.2/\Kp L.all w1 w2/\Grew w1 L L1/\BSl (S0 P L1 M U) w2 (.slice A n c) data))
 case first=>
  go_region_law (go_simp;go_at_call 17;refine(HC1.out _ (by first|exact Kp.refl _ _|exact(Kp.refl [] w1).drewN _)).mono ?_;rintro e w2 ⟨av,rfl,x1,y0,y1,y2,HZ⟩)
  all_goals
   go_wp2_with fail
   go_meet
   exact⟨_,_,rfl,rfl,x1,y0,y1,y2,HZ⟩
 case rest=>
  obtain⟨w2,av,rfl,rfl,x1,y0,y1,y2,HZ⟩:=hcut
  obtain⟨L1,hz⟩:=HZ.out
  have HX1:=As.mk (fun wX kX=>HX.out w1 g1 c1 w2 L1 _ HR.out.1 HR.out.2 hz.1 hz.2.1 hz.2.2.1 hz.2.2.2.2 wX kX)
  have HZ:=As.mk hz
  clear hz HX HC1 p0 m0 m1 m2 i1 i2
  go_upto_region 3 with fail
  go_cut [7] from 27 to 32 (fun v7 wx=>∃w3 bv,w3=wx/\bv=v7/\w3.cell? ⟨mb,2,none⟩=some (.slice A n c)/\
   As (∃M1,PrS (g1::U) w3 P L1 M1 cf r.1 r.1 WV ms/\OutI (WV.ownBlock.toList++S0 P L1 M1 (g1::U)) w3 av r.2/\OutI (WV.ownBlock.toList++S0 P L1 M1 (g1::U)) w3 bv r.2/\Kp M.all w2 w3/\RGrew w2 M M1/\BSl (S0 P L1 M1 U) w3 (.slice A n c) data))
  case first=>
   go_region_law (go_simp;go_at_call 101;refine(HX1.out _ (by first|exact Kp.refl _ _|exact(Kp.refl [] w2).drewN _)).mono ?_;rintro e w3 ⟨bv,rfl,y2,HZ⟩)
   all_goals
    go_wp2_with fail
    go_meet
    exact⟨_,_,rfl,rfl,y2,HZ⟩
  case rest=>
   obtain⟨w3,bv,rfl,rfl,y2,HY⟩:=hcut
   obtain⟨M1,hy⟩:=HY.out
   have hPS:=hy.1
   have hg1:mb<g1:=by have:=HR.out.1.2 g1 rfl;omega
   have hgn:∀x,x∈L.all\/x∈M.all->x≠g1:=fun x hx e=>by
    rcases hx with e2|e2
    ·have:=hLlt x e2;omega
    ·have:=hMlt x e2;omega
   have hO3:Own 5 .u8 w3 W.heap.size (.slice (some ⟨g1,0,none⟩) (n+1) c1) (data++[171]):=(HR.out.1.kp HZ.out.2.2.1 (fun g e hm=>hgn g (.inl hm) (by simpa [Value.ownBlock] using e.symm))).kp hy.2.2.2.1 (fun g e hm=>hgn g (.inr hm) (by simpa [Value.ownBlock] using e.symm))
   have ol:(data++[171]).length=n+1:=hO3.len
   have hnl:data.length=n:=by simpa using ol
   have HST:As (∀wX,Kp [] w3 wX->Calls Tryz.prog 102 #[.slice (some ⟨g1,0,none⟩) (n+1) c1,.slice A n c] wX fun e w'=>e= .returned (.bool true)/\∃q,w'=wX.drewN q):=⟨fun wX kX=>by
    obtain⟨B9,d9,e9,_,_,rr,_⟩:=own_rd (hO3.kp kX (by simp)).1
    obtain⟨rfl,_,rfl⟩:=Value.slice.inj e9
    obtain⟨A9,c9,e9,rd9,_⟩:=hy.2.2.2.2.2
    obtain⟨rfl,_,rfl⟩:=Value.slice.inj e9
    have:=haystacklaw24.stands_any (some ⟨g1,0,none⟩) A (n+1) c1 n c (data++[171]) data wX ol hnl rr ((rd9.kp kX (by simp)).rd) hc1 (by rw[ol];omega) (by omega)
    rw[decide_eq_true rfl] at this
    exact this⟩
   have HSP:As (∀wX,Kp [] w3 wX->Calls Tryz.prog 58 #[.slice (some ⟨g1,0,none⟩) (n+1) c1] wX fun e w5=>e= .returned (.tuple #[])/\As (Kp [g1] w3 w5)):=⟨fun wX kX=>by
    have o:=(hO3.kp kX (by simp)).1
    rw[ol] at o
    refine(haystacklaw24.spoil_any _ (n+1) _ wX o (by omega)).mono ?_
    rintro e w5 ⟨rfl,k5⟩
    exact⟨rfl,⟨(kX.mono (by simp)).trans k5 (fun x hx=> .inl (by simpa [Value.ownBlock] using hx))⟩⟩⟩
   have HSE:As (∀w5,Kp [g1] w3 w5->Calls Tryz.prog 65 #[.pointer (some ⟨P,0,none⟩),av,bv] w5 fun e w'=>e= .returned (.bool true)/\As (Played U P L M cf WV r.1 (wayN ms r.2) w w')):=⟨fun w5 k5=>by
    have hPg:P∉[g1]:=by simp;omega
    have hg3:g1<w3.heap.size:=hPS.lt g1 (List.mem_append.2 (.inr (by simp[S0])))
    have h5:=(hPS.kp (U2:=g1::U) k5 (fun x hx=> .inl (by simp at hx;simp[hx])) hPg (fun x hx=> .inl hx)).pair
    have vA:∀x∈[g1],x∈WV.ownBlock.toList++S0 P L1 M1 (g1::U)\/w3.heap.size<=x:=fun x hx=> .inl (List.mem_append.2 (.inr (by simp at hx;simp[hx,S0])))
    have oa:=hy.2.1.kp k5 vA (fun x hx=> .inl hx)
    have ob:=hy.2.2.1.kp k5 vA (fun x hx=> .inl hx)
    have hj:=HI.out.1.job
    refine(sent_any (g1::U) w5 P L1 M1 cf r.1 WV av bv ms r.2 h5 oa ob hms (by have:=HI.out.2.2;omega) (by omega)).mono ?_
    rintro e w' ⟨rfl,WV',h6,k6,g6⟩
    have k01:Kp [] w w1:=kW.trans HR.out.2 (by simp)
    have s01:=k01.size
    have s12:=HZ.out.2.2.1.size
    have s23:=hy.2.2.2.1.size
    have s35:=k5.size
    have kAll:Kp (P::(L.all++(M.all++WV.ownBlock.toList))) w w':=by
     have k02:Kp (P::(L.all++(M.all++WV.ownBlock.toList))) w w2:=(k01.mono (by simp)).trans HZ.out.2.2.1 (fun x hx=> .inl (by simp[hx]))
     have k03:=k02.trans hy.2.2.2.1 (fun x hx=> .inl (by simp[hx]))
     have k05:=k03.trans k5 (fun x hx=> .inr (by simp at hx;have:=HMB.out;omega))
     exact k05.trans k6 (fun x hx=> .inl (by
      simp only[List.mem_cons,List.mem_append] at hx⊢
      rcases hx with e|e
      ·exact .inl e
      ·exact .inr (.inr (.inr e))))
    refine⟨rfl,⟨L1,M1,WV',(h6.prs.kp (U2:=U) (Kp.refl [] w') (by simp) (by simp) (fun x hx=> .inl (by simp[hx]))).pair,kAll,fun x hx=> ?_⟩⟩
    simp only[List.mem_append] at hx⊢
    rcases hx with e|e|e
    ·exact(HZ.out.2.2.2.1.2 x e).imp (fun e=> .inl e) (fun e=>by omega)
    ·exact(hy.2.2.2.2.1.2 x e).imp (fun e=> .inr (.inl e)) (fun e=>by omega)
    ·exact(g6 x (by simpa using e)).imp (fun e=> .inr (.inr (by simpa using e))) (fun e=>by omega)⟩
   have HY:=As.mk hy
   clear hy hPS hO3 hgn hnl ol
   go_upto_region 6 with(first
    |(go_at_call 102;refine(HST.out _ (by first|exact Kp.refl _ _|exact(Kp.refl [] w3).drewN _)).mono ?_;rintro e w4 ⟨rfl,q4,hq4⟩;have HK4:As (Kp [] w3 w4):=⟨by rw[hq4];exact(Kp.refl [] w3).drewN _⟩;clear hq4 HST;have HS4:=As.mk (HSP.out w4 HK4.out);clear HSP)
    |(go_at_call 58;refine HS4.out.mono ?_;rintro e w5 ⟨rfl,HK5⟩;clear HS4;have HE5:=As.mk (HSE.out w5 HK5.out);clear HSE))
   go_wp2_with (go_at_call 65;refine HE5.out.mono ?_;rintro e w6 ⟨rfl,HZ6⟩;clear HE5)
   go_ret
   exact⟨rfl,HZ6.out⟩
end Go.Proofs.YtdiljpdohmeceaaGreat.co
