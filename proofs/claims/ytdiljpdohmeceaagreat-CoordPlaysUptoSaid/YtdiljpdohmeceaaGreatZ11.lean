/- Words and walks that this claim rests on: proved lemmas alone. -/
import Derived.Test.YtdiljpdohmeceaaGreatZ10
set_option maxHeartbeats 16000000
set_option maxRecDepth 100000
namespace Go.Proofs.YtdiljpdohmeceaaGreat.co.cr
open Go.RowKit H O opk frame wir
theorem new_good(id pat tr:Nat)(A:Option Addr)(n c:Nat)(l:List (List Int))(w:World)(hn:l.length=n)(hr:Ri [] w A l)(hg:∀x∈l,Grp x)(h1:7<=id/\id<=255)(h2:1<=pat/\pat<=1000)(h3:1<=tr/\tr<=1000)(h4:1<=n/\n<=8):
 Calls Tryz.prog 26 #[.int .i64 (id:Int),.int .i64 (pat:Int),.int .i64 (tr:Int),.slice A n c] w fun e w'=>∃L,e= .returned (.tuple #[.pointer (some ⟨L.b,0,none⟩),.int .i64 0])/\
  As (∀U,(∀x∈U,x<w.heap.size)->RsSt U w' L ⟨id,pat,tr,l⟩ (newCs n))/\(∀x∈L.all,w.heap.size<=x)/\Kp [] w w':=by
 have m0:¬(n:Int)<1:=by omega
 have m1:¬(n:Int)>8:=by omega
 have m3:¬(8:Int)<(n:Int):=by omega
 have m2:(0:Int)<=(n:Int):=by omega
 have f1:¬(id:Int)<7:=by omega
 have f2:¬(255:Int)<(id:Int):=by omega
 have f3:¬(pat:Int)<1:=by omega
 have f4:¬(1000:Int)<(pat:Int):=by omega
 have f5:¬(tr:Int)<1:=by omega
 have f6:¬(1000:Int)<(tr:Int):=by omega
 have HN:=As.mk hn
 have HR:=As.mk hr
 have HG:=As.mk hg
 clear hn hr hg
 go_enter Tryz.func26,Tryz.ntmps26
 go_wp2_with fail
 have HI0:As (NewR w id pat tr w.heap.size 0 0 l (w.alloc (.cells #[.int .i64 (id:Int),.int .i64 (pat:Int),.int .i64 (tr:Int),.slice none 0 0,.slice none 0 0,.slice none 0 0,.int .i64 0,.slice none 0 0,.int .i64 0,.slice none 0 0] 136)) (.slice none 0 0) (.slice none 0 0)):=⟨by
  refine⟨heap_alloc_new w _,OwnL.nil _ _ _,by simp[Value.ownBlock],World.ownsRow_nil _ 0 _ 1,by simp[Value.ownBlock],(Kp.refl [] w).alloc _,Nat.le_refl _⟩⟩
 go_loopw [11] (fun i wr=>∃(k:Nat) (VS VW:Value),i= .int .i64 (k:Int)/\k<=n/\As (NewR w id pat tr w.heap.size k k l wr VS VW)) (fun i _=>n-(intOf i).toNat)
 case atStart=>exact⟨0,_,_,rfl,by omega,HI0⟩
 case round=>
  obtain⟨k,VS,VW,rfl,hk,HI⟩:=hrel
  by_cases hlt:k<n
  ·have hlt':k<l.length:=by rw[HN.out];exact hlt
   obtain⟨b0,o0,Aj,cj,rfl,_,d0,hcj,hrj⟩:=ri_at HR.out k hlt'
   have hjnil:=ri_nil HR.out hlt' d0
   have d1:=HI.out.kp.cell d0 (by simp)
   have D0:=As.mk d0
   obtain⟨x,hx⟩:∃x,x=l[k]:=⟨_,rfl⟩
   rw[<-hx] at d1 hrj hcj
   obtain⟨m,hm⟩:∃m,x.length=m:=⟨_,rfl⟩
   rw[<-hx,hm] at D0
   rw[hm] at d1 hcj
   have hgx:Grp x:=by rw[hx];exact HG.out _ (List.getElem_mem _)
   have HGR:=As.mk (group_good Aj m cj x wr hm (HI.out.kp.rd_new hrj.rd (by simp)) hgx)
   have i0:(0:Int)<=(k:Int):=by omega
   have i1:(k:Int)<(n:Int):=by omega
   have hm7:=hgx.1
   rw[hm] at hm7
   have i2:(0:Int)<(m:Int):=by omega
   have i2n:0<m:=by omega
   have i3:¬(m:Int)=0:=by omega
   have hm8:m<=7:=hm7.2
   obtain⟨us,ho,hlo,hvs⟩:=HI.out.sh
   have hlk:(l.take k).length=k:=by rw[List.length_take];omega
   rw[hlk] at ho
   obtain⟨AV,cV,rfl,_⟩:=own_rd ho
   obtain⟨AW,cW,rfl,_⟩:=own_rd HI.out.wh
   have HUS:As (∀wX,Kp [] wr wX->wX.ownsRow 0 53 1 (.slice AV k cV) k us):=⟨fun wX kX=>kX.own ho (by simp)⟩
   have HRJ:As (∀wX,Kp [] wr wX->Rd wX Aj (iv .i64 x)):=⟨fun wX kX=>(HI.out.kp.trans kX (by simp)).rd_new hrj.rd (by simp)⟩
   have HJN:=As.mk hjnil
   have HXL:=As.mk hm
   have hx0:0<x.length:=by omega
   obtain⟨y,hy⟩:∃y,x[0]=y:=⟨_,rfl⟩
   have HY:As ((l.getD k []).getD 0 0=y):=⟨by rw[<-hy];simp[List.getD,hlt',<-hx,hx0]⟩
   obtain⟨bj,oj,rfl,e0⟩:=int_at (HI.out.kp.rd_new hrj.rd (by simp)) 0 hx0
   rw[Nat.add_zero,hy] at e0
   have E0:As (w.cell? ⟨bj,oj,none⟩=some (.int .i64 y)):=⟨by
    obtain⟨_,_,e,h⟩:=int_at hrj.rd 0 hx0
    cases e
    rw[Nat.add_zero,hy] at h
    exact h⟩
   have hb:=HI.out.blk
   have c3:wr.cell? ⟨w.heap.size,3,none⟩=some (.slice AV k cV):=bkc hb 3 rfl
   have HX:As (∃h:k<l.length,x=l[k]):=⟨hlt',hx⟩
   clear hjnil hx hrj hcj hm hgx ho hlo hvs hlk d0 hm7 hy hb hx0 hlt'
   go_upto_region 9 with(go_at_call 73;refine HGR.out.mono ?_;rintro e wg ⟨rfl,kg⟩;have HKG:=As.mk kg;have c3g:=kg.cell c3 (by simp);have d1g:=kg.cell d1 (by simp);have e0g:=kg.cell e0 (by simp);have lg:=World.block_lt_of_cell? wg _ d1g;have ng:¬b0=wg.heap.size:=Nat.ne_of_lt lg;have lb:=World.block_lt_of_cell? wg _ c3g;have nb:¬w.heap.size=wg.heap.size:=Nat.ne_of_lt lb;clear kg c3 d1 e0)
   have HFIN:As (∀w2 A2 c2 v3 w3,Kp [] wr w2->Own 3 .i64 w2 wr.heap.size (.slice A2 m c2) x->w3.ownsRow 0 53 1 v3 (k+1) (us++[.slice A2 m c2])->Kp (Value.slice AV k cV).ownBlock.toList (w2.alloc (.cells #[.slice A2 m c2] 53)) w3->At (w2.heap.size+1) (Value.slice AV k cV).ownBlock v3.ownBlock->
    w3.cell? ⟨w.heap.size,3,none⟩=some (.slice AV k cV)/\w3.frozen? ⟨w.heap.size,3,none⟩=false/\As (NewR w id pat tr w.heap.size (k+1) k l (w3.setCell ⟨w.heap.size,3,none⟩ v3) v3 (.slice AW k cW))):=⟨by
    intro w2 A2 c2 v3 w3 k2 o2 o3 k3 a3
    obtain⟨hl,hx⟩:=HX.out
    obtain⟨y0,y1,y2⟩:=HI.out.row hl hx HUS.out k2 o2 o3 k3 a3
    exact⟨y0,y1,⟨y2⟩⟩⟩
   have HIN:As (∀q v6 w6,w6.ownsRow 0 3 1 v6 (0+m) ([]++iv .i64 x)->Kp (Value.slice (some ⟨wg.heap.size,0,none⟩) 0 0).ownBlock.toList ((wg.drewN q).alloc (.cells #[] 3)) w6->At (wg.heap.size+1) (Value.slice (some ⟨wg.heap.size,0,none⟩) 0 0).ownBlock v6.ownBlock->
    ∃A2 c2,v6= .slice A2 m c2/\As (Kp [] wr w6)/\As (Own 3 .i64 w6 wr.heap.size (.slice A2 m c2) x)/\w6.cell? ⟨w.heap.size,3,none⟩=some (.slice AV k cV)):=⟨by
    intro q v6 w6 o6 k6 a6
    have o6':w6.ownsRow 0 3 1 v6 m (iv .i64 x):=by simpa using o6
    obtain⟨A2,c2,rfl,_⟩:=own_rd o6'
    have hs:=HKG.out.size
    have k0:Kp [] wg w6:=(((Kp.refl [] wg).drewN q).alloc _).trans k6 (by intro x hx;simp[Value.ownBlock] at hx;right;omega)
    exact⟨A2,c2,rfl,⟨HKG.out.trans k0 (by simp)⟩,⟨⟨by rw[HXL.out];exact o6',a6.ge (by omega) (by simp[Value.ownBlock];omega)⟩⟩,k0.cell c3g (by simp)⟩⟩
   clear HN HG HR HX e0g
   go_cut [61] from 61 to 75 (fun _ wx=>∃V3 w9,w9=wx/\As (NewR w id pat tr w.heap.size (k+1) k l w9 V3 (.slice AW k cW)))
   case first=>
    go_region_law (first
     |(refine step_app rfl (.tmp 66) (.tmp 70) 53 rfl 3 (.int .i64 0) 1 8 Tryz.underlying53 info_int rfl (by decide) (.slice (some ⟨wg.heap.size,0,none⟩) 0 0) 0 [] rfl (own_new wg.drew [] _ (Nat.zero_le _)) (some ⟨bj,oj,none⟩) m cj (iv .i64 x) rfl (by rw[iv_len,HXL.out,Nat.mul_one]) (HRJ.out _ ((HKG.out.drewN _).alloc _)) HJN.out (iv_one _ _) (by omega) (by omega) ?_;intro v6 w6 o6 k6 a6;obtain⟨A2,c2,rfl,HK2,HO2,c32⟩:=HIN.out _ v6 w6 o6 k6 (by simpa using a6);have n2:w.heap.size<w6.heap.size:=World.block_lt_of_cell? w6 _ c32;have n3:¬w.heap.size=w6.heap.size:=Nat.ne_of_lt n2;clear o6 k6 a6)
     |(refine step_app rfl (.tmp 65) (.tmp 72) 79 rfl 53 (.slice none 0 0) 1 24 Tryz.underlying79 info_row rfl (by decide) (.slice AV k cV) k us rfl (HUS.out _ (by first|exact HK2.out.alloc _|exact(HK2.out.drew.alloc _))) (some ⟨w6.heap.size,0,none⟩) 1 1 [.slice A2 m c2] rfl rfl (rd_new w6 [.slice A2 m c2] 53) (by simp) (by simp[Value.oneCell']) (by omega) (by omega) ?_;intro v7 w7 o7 k7 a7;obtain⟨A7,c7,rfl,_⟩:=own_rd o7;obtain⟨y0,y1,HZ⟩:=HFIN.out w6 A2 c2 _ w7 HK2.out HO2.out o7 k7 (by simpa using a7);clear o7 k7 a7))
    all_goals
     go_wp2_with fail
     go_meet
     exact⟨_,_,rfl,HZ⟩
   case rest=>
    obtain⟨V3,w9,rfl,HZ⟩:=hcut
    have hb9:=HZ.out.blk
    have c9:w9.cell? ⟨w.heap.size,4,none⟩=some (.slice AW k cW):=bkc hb9 4 rfl
    have d9:=HZ.out.kp.cell D0.out (by simp)
    have e9:=HZ.out.kp.cell E0.out (by simp)
    have l9:=World.block_lt_of_cell? w9 _ d9
    have n9:¬b0=w9.heap.size:=Nat.ne_of_lt l9
    have lj9:=World.block_lt_of_cell? w9 _ e9
    have nj9:¬bj=w9.heap.size:=Nat.ne_of_lt lj9
    have lb9:=World.block_lt_of_cell? w9 _ c9
    have nb9:¬w.heap.size=w9.heap.size:=Nat.ne_of_lt lb9
    have HOW:As (∀q,((w9.drewN q).alloc (.cells #[.int .i64 y] 3)).ownsRow 0 3 1 (.slice AW k cW) k (iv .i64 (firsts l k))):=⟨fun q=>(((Kp.refl [] w9).drewN q).alloc _).own HZ.out.wh (by simp)⟩
    have HFIN2:As (∀q v3 w3,w3.ownsRow 0 3 1 v3 (k+1) (iv .i64 (firsts l k)++[.int .i64 y])->Kp (Value.slice AW k cW).ownBlock.toList ((w9.drewN q).alloc (.cells #[.int .i64 y] 3)) w3->At (w9.heap.size+1) (Value.slice AW k cW).ownBlock v3.ownBlock->
     w3.cell? ⟨w.heap.size,4,none⟩=some (.slice AW k cW)/\w3.frozen? ⟨w.heap.size,4,none⟩=false/\As (NewR w id pat tr w.heap.size (k+1) (k+1) l (w3.setCell ⟨w.heap.size,4,none⟩ v3) V3 v3)):=⟨fun q v3 w3 o3 k3 a3=>by
     obtain⟨y0,y1,y2⟩:=(HZ.out.drewN ((Kp.refl [] w9).drewN q)).first HY.out o3 k3 (by simpa using a3)
     exact⟨y0,y1,⟨y2⟩⟩⟩
    clear hb9 HIN HFIN HUS HRJ HJN HXL HZ HI D0 E0 HY HKG c3g d1g
    go_upto_region 10 with fail
    go_region_law (refine step_app rfl (.tmp 80) (.tmp 87) 53 rfl 3 (.int .i64 0) 1 8 Tryz.underlying53 info_int rfl (by decide) (.slice AW k cW) k (iv .i64 (firsts l k)) rfl (HOW.out _) (some ⟨w9.heap.size,0,none⟩) 1 1 [.int .i64 y] rfl rfl (rd_new _ [.int .i64 y] 3) (by simp) (by simp[Value.oneCell']) (by omega) (by omega) ?_;intro v7 w7 o7 k7 a7;obtain⟨A7,c7,rfl,_⟩:=own_rd o7;obtain⟨y0,y1,HZ3⟩:=HFIN2.out _ _ w7 o7 k7 (by simpa using a7);clear o7 k7 a7)
    all_goals
     go_wp2_with fail
     go_roundw
     case rel=>exact⟨k+1,_,_,by go_num,by omega,HZ3⟩
     case measure=>simp[intOf];omega
  ·obtain rfl:k=n:=by omega
   go_wp2_with fail
   go_ret2
   obtain⟨L,hb,hlo,h9⟩:=HI.out.fin HN.out (by omega)
   exact⟨L,by rw[hb];rfl,⟨h9⟩,hlo,HI.out.kp⟩
end Go.Proofs.YtdiljpdohmeceaaGreat.co.cr
