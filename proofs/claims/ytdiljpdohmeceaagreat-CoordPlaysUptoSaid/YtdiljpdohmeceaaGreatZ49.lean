/- Words and walks that this claim rests on: proved lemmas alone. -/
import Derived.Test.YtdiljpdohmeceaaGreatZ48
set_option maxHeartbeats 16000000
set_option maxRecDepth 100000
namespace Go.Proofs.YtdiljpdohmeceaaGreat.co
open Go.RowKit H O opk frame wir
theorem cply_law(w:World)(id pat tr:Int)(A:Option Addr)(n c:Nat)(l:List ActV)(hn:l.length=n)(hr:ARd w A l)(hw:∀s∈l,Wf s.b)(hs:actSum l<=2097152):
 Calls Tryz.prog 4 #[.int .i64 id,.int .i64 pat,.int .i64 tr,.slice A n c] w fun e w'=>e= .returned (.bool true)/\Below w.heap.size w w':=by
 have HHV:=As.mk (heavy_any A n c l w hn hr (by omega))
 have HKN:=As.mk (fun wX=>known_any wX)
 have hn9:n<=100000000:=by
  rw[<-hn]
  have:∀l:List ActV,l.length<=actSum l:=fun l=>by
   induction l with
   |nil=>simp
   |cons x l ih=>simp only[actSum,List.map_cons,List.sum_cons,List.length_cons,actSize] at ih⊢;omega
  exact Nat.le_trans (this l) (by omega)
 have HN:=As.mk hn
 have HR:=As.mk hr
 have HW:=As.mk hw
 clear hn hr hw hs
 by_cases hbad:id<7\/255<id\/pat<1\/1000<pat\/tr<1\/1000<tr
 ·
  have HSB:=As.mk (fun wX=>start_bad id pat tr wX hbad)
  clear hbad
  go_enter Tryz.func4,Tryz.ntmps4
  go_upto_region 1 with fail
  go_wp2_with (first
   |(go_at_call 19;refine HHV.out.mono ?_;rintro e w1 ⟨hv,rfl,-,k1⟩;have HK1:=As.mk k1;clear k1 HHV)
   |(go_at_call 7;refine(HKN.out _).mono ?_;rintro e w4 ⟨rfl,k4⟩;have HK4:=As.mk k4;clear k4)
   |(go_at_call 8;refine(HSB.out _).mono ?_;rintro e w2 ⟨P,rfl,p0,HK2⟩;clear HSB)
   |fail)
  ·go_ret
   exact⟨rfl,(HK1.out.trans HK4.out (by simp)).below⟩
  ·go_ret
   exact⟨rfl,((HK1.out.trans HK2.out (by simp)).trans HK4.out (by simp)).below⟩
 ·obtain⟨ni,rfl⟩:∃n:Nat,id=(n:Int):=⟨id.toNat,by omega⟩
  obtain⟨np,rfl⟩:∃n:Nat,pat=(n:Int):=⟨pat.toNat,by omega⟩
  obtain⟨nt,rfl⟩:∃n:Nat,tr=(n:Int):=⟨tr.toNat,by omega⟩
  have hq:(7<=ni/\ni<=255)/\(1<=np/\np<=1000)/\(1<=nt/\nt<=1000):=by omega
  have HOK:=As.mk (lCfg_ok hq.1 hq.2.1 hq.2.2)
  have HSG:=As.mk (fun wX=>start_good ni np nt wX hq.1 hq.2.1 hq.2.2)
  clear hbad hq
  go_enter Tryz.func4,Tryz.ntmps4
  go_upto_region 1 with fail
  go_upto_region 8 with(first
   |(go_at_call 19;refine HHV.out.mono ?_;rintro e w1 ⟨hv,rfl,HSM,k1⟩;have HSM:=As.mk HSM;have HK1:=As.mk k1;clear k1 HHV)
   |(go_at_call 7;refine(HKN.out _).mono ?_;rintro e w4 ⟨rfl,k4⟩;have HK4:=As.mk k4;clear k4)
   |(go_at_call 8;refine(HSG.out w1).mono ?_;rintro e w2 ⟨P,L,M,rfl,HP,HLO⟩;have HI0:=As.mk (CplI.start HOK.out HP.out HLO.out);have p0:=HI0.out.cells.1;clear HSG HP HLO)
   |fail)
  ·go_ret
   exact⟨rfl,(HK1.out.trans HK4.out (by simp)).below⟩
  have HS2:As (actSum (l.take 200)<=6000):=⟨HSM.out (by assumption)⟩
  obtain⟨Lb0,hLb0⟩:∃b,L.b=b:=⟨_,rfl⟩
  obtain⟨Mb0,hMb0⟩:∃b,M.b=b:=⟨_,rfl⟩
  rw[hLb0,hMb0] at HI0
  obtain⟨cf,hcf⟩:∃cf,lCfg ni np nt=cf:=⟨_,rfl⟩
  have hc2:cf.shards.length<=2:=by rw[<-hcf];show 2<=2;omega
  rw[hcf] at HI0
  have HC2:=As.mk hc2
  clear hc2 hcf HSM HOK hLb0 hMb0 p0
  go_wp2_with fail
  go_loopw [11] (fun v wr=>∃(i Lb Mb:Nat),v= .int .i64 (i:Int)/\i<=n/\i<=200/\wr.cell? ⟨P,0,none⟩=some (.pointer (some ⟨Lb,0,none⟩))/\wr.cell? ⟨P,1,none⟩=some (.pointer (some ⟨Mb,0,none⟩))/\As (CplI w1 cf P Lb Mb i wr)) (fun v _=>n-(intOf v).toNat)
  case atStart=>exact⟨0,Lb0,Mb0,rfl,by omega,by omega,HI0.out.cells.1,HI0.out.cells.2,HI0⟩
  case round=>
   obtain⟨i,Lb,Mb,rfl,hi,hi2,p0,p1,HI⟩:=hrel
   by_cases hgo:i<n/\i<200
   ·obtain⟨hlt,h200⟩:=hgo
    have i0:(0:Int)<=(i:Int):=by omega
    have i1:(i:Int)<(n:Int):=by omega
    have i2:(i:Int)<200:=by omega
    have hlt':i<l.length:=by rw[HN.out];exact hlt
    obtain⟨b0,o0,rfl,ha0⟩:=HR.out i hlt'
    have hz:actSize l[i]<=6003:=by
     have hm:l[i]∈l.take 200:=by
      rw[List.mem_take_iff_getElem]
      exact⟨i,by omega,rfl⟩
     have:=actSum_mem hm
     have:=HS2.out
     omega
    have hwx:=HW.out _ (List.getElem_mem hlt')
    obtain⟨x,hx⟩:∃x,l[i]=x:=⟨_,rfl⟩
    rw[hx] at ha0 hz hwx
    have ha1:=ha0.kp HK1.out
    obtain⟨AB,cB,b7,rB,hB⟩:=ha1.fb
    obtain⟨AL,cL,b8,rL,hL⟩:=ha1.fl
    obtain⟨b1,b2,b3,b4,b5,b6⟩:=ha1.nums
    have bk:=ha1.key
    obtain⟨nB,hnB⟩:∃m,x.b.length=m:=⟨_,rfl⟩
    obtain⟨nL,hnL⟩:∃m,x.l.length=m:=⟨_,rfl⟩
    rw[hnB] at b7 hB
    rw[hnL] at b8
    have HDO:=As.mk (HI.out.does x AB cB AL cL nB nL hnB hnL rB hB rL hwx hz (by omega) HC2.out)
    have kI:=HI.out.kp
    have b1:=kI.cell b1 (by simp)
    have b2:=kI.cell b2 (by simp)
    have b3:=kI.cell b3 (by simp)
    have b4:=kI.cell b4 (by simp)
    have b5:=kI.cell b5 (by simp)
    have b6:=kI.cell b6 (by simp)
    have bk:=kI.cell bk (by simp)
    have b7:=kI.cell b7 (by simp)
    have b8:=kI.cell b8 (by simp)
    clear kI hnB hnL rB hB rL hL hwx hz ha1 ha0 hx hlt'
    go_upto_region 13 with(go_at_call 20;refine HDO.out.mono ?_;rintro e w3 ⟨Lb',Mb',rfl,p0,p1,HJ⟩;clear HDO)
    have HD1:=As.mk (fun wX kX=>HJ.out.done (wX:=wX) kX)
    have HJ1:=HJ
    have hi9:i+1<=9000:=by omega
    clear b1 b2 b3 b4 b5 b6 bk b7 b8
    by_cases h3:i%3=0
    ·have e3:(i:Int).tmod 3=0:=by rw[Int.tmod_eq_emod_of_nonneg (by omega)];omega
     have KZ3:As (∀wX,Kp [] w3 wX->(wX.cell? ⟨P,0,none⟩=some (.pointer (some ⟨Lb',0,none⟩))/\wX.cell? ⟨P,1,none⟩=some (.pointer (some ⟨Mb',0,none⟩)))):=⟨fun wX kX=>⟨kX.cell p0 (by simp),kX.cell p1 (by simp)⟩⟩
     go_region_held3 (fun wX=>wX.cell? ⟨P,0,none⟩=some (.pointer (some ⟨Lb',0,none⟩))/\wX.cell? ⟨P,1,none⟩=some (.pointer (some ⟨Mb',0,none⟩)))
      (first|exact KZ6.out _ (Kp.refl _ _)|exact KZ6.out _ ((Kp.refl [] _).drewN _)|exact KZ6.out _ (Kp.refl [] _).drew|exact KZ5.out _ (Kp.refl _ _)|exact KZ5.out _ ((Kp.refl [] _).drewN _)|exact KZ5.out _ (Kp.refl [] _).drew|exact KZ4.out _ (Kp.refl _ _)|exact KZ4.out _ ((Kp.refl [] _).drewN _)|exact KZ4.out _ (Kp.refl [] _).drew|exact KZ3.out _ (Kp.refl _ _)|exact KZ3.out _ ((Kp.refl [] _).drewN _)|exact KZ3.out _ (Kp.refl [] _).drew|fail)
      (first
      |(go_at_call 18;refine(HD1.out _ (by first|exact Kp.refl _ _|exact(Kp.refl [] w3).drewN _|exact(Kp.refl [] w3).drew)).mono ?_;rintro e w4 ⟨v1,rfl,p0,p1,HD⟩;have HD2:=As.mk (fun wX kX=>HD.out.done (wX:=wX) kX);have KZ4:As (∀wX,Kp [] w4 wX->(wX.cell? ⟨P,0,none⟩=some (.pointer (some ⟨Lb',0,none⟩))/\wX.cell? ⟨P,1,none⟩=some (.pointer (some ⟨Mb',0,none⟩)))):=⟨fun wX kX=>⟨kX.cell p0 (by simp),kX.cell p1 (by simp)⟩⟩)
      |(go_at_call 22;refine(HD2.out _ (by first|exact Kp.refl _ _|exact(Kp.refl [] w4).drewN _|exact(Kp.refl [] w4).drew)).mono ?_;rintro e w5 ⟨v2,rfl,p0,p1,HE⟩;have HE2:=As.mk (fun wX kX=>HE.out.results (wX:=wX) kX hi9);have KZ5:As (∀wX,Kp [] w5 wX->(wX.cell? ⟨P,0,none⟩=some (.pointer (some ⟨Lb',0,none⟩))/\wX.cell? ⟨P,1,none⟩=some (.pointer (some ⟨Mb',0,none⟩)))):=⟨fun wX kX=>⟨kX.cell p0 (by simp),kX.cell p1 (by simp)⟩⟩)
      |(go_at_call 21;refine(HE2.out _ (by first|exact Kp.refl _ _|exact(Kp.refl [] w5).drewN _|exact(Kp.refl [] w5).drew)).mono ?_;rintro e w6 ⟨rfl,p0,p1,HF⟩;have KZ6:As (∀wX,Kp [] w6 wX->(wX.cell? ⟨P,0,none⟩=some (.pointer (some ⟨Lb',0,none⟩))/\wX.cell? ⟨P,1,none⟩=some (.pointer (some ⟨Mb',0,none⟩)))):=⟨fun wX kX=>⟨kX.cell p0 (by simp),kX.cell p1 (by simp)⟩⟩)
      |fail)
     go_wp2_with fail
     go_roundw
     case rel=>exact⟨i+1,Lb',Mb',by go_num,by omega,by omega,p0,p1,HF⟩
     case measure=>simp[intOf];omega
    ·obtain⟨r,hr3⟩:∃r,i%3=r:=⟨_,rfl⟩
     have e3:(i:Int).tmod 3=(r:Int):=by rw[Int.tmod_eq_emod_of_nonneg (by omega)];omega
     have n3:¬(r:Int)=0:=by omega
     have n3b:((r:Int)==0)=false:=by simpa using n3
     have KZ3:As (∀wX,Kp [] w3 wX->(wX.cell? ⟨P,0,none⟩=some (.pointer (some ⟨Lb',0,none⟩))/\wX.cell? ⟨P,1,none⟩=some (.pointer (some ⟨Mb',0,none⟩)))):=⟨fun wX kX=>⟨kX.cell p0 (by simp),kX.cell p1 (by simp)⟩⟩
     clear h3 hr3
     go_quiet (fail)
     go_wp2_with fail
     go_roundw
     case rel=>exact⟨i+1,Lb',Mb',by go_num,by omega,by omega,by first|exact p0|exact(KZ3.out _ ((Kp.refl [] _).drewN _)).1|exact(KZ3.out _ (Kp.refl [] _).drew).1,by first|exact p1|exact(KZ3.out _ ((Kp.refl [] _).drewN _)).2|exact(KZ3.out _ (Kp.refl [] _).drew).2,by first|exact HJ1|exact⟨HJ1.out.kp0 ((Kp.refl [] _).drewN _)⟩|exact⟨HJ1.out.kp0 (Kp.refl [] _).drew⟩⟩
     case measure=>simp[intOf];omega
   ·have KE:=As.mk HK1.out
    obtain⟨w3,rfl⟩:∃w3,w3=wr:=⟨_,rfl⟩
    have HD1:=As.mk (fun wX kX=>HI.out.done (wX:=wX) kX)
    have hi9:i<=9000:=by omega
    have KZ3:As (∀wX,Kp [] w3 wX->(wX.cell? ⟨P,0,none⟩=some (.pointer (some ⟨Lb,0,none⟩))/\wX.cell? ⟨P,1,none⟩=some (.pointer (some ⟨Mb,0,none⟩)))):=⟨fun wX kX=>⟨kX.cell p0 (by simp),kX.cell p1 (by simp)⟩⟩
    rcases (by omega:¬i<n\/(i<n/\¬i<200)) with e|⟨e1,e2⟩
    ·have i1:¬(i:Int)<(n:Int):=by omega
     clear hgo e
     go_upto_region 15 with fail
     go_region_held3 (fun wX=>wX.cell? ⟨P,0,none⟩=some (.pointer (some ⟨Lb,0,none⟩))/\wX.cell? ⟨P,1,none⟩=some (.pointer (some ⟨Mb,0,none⟩)))
      (first|exact KZ7.out _ (Kp.refl _ _)|exact KZ7.out _ ((Kp.refl [] _).drewN _)|exact KZ7.out _ (Kp.refl [] _).drew|exact KZ6.out _ (Kp.refl _ _)|exact KZ6.out _ ((Kp.refl [] _).drewN _)|exact KZ6.out _ (Kp.refl [] _).drew|exact KZ5.out _ (Kp.refl _ _)|exact KZ5.out _ ((Kp.refl [] _).drewN _)|exact KZ5.out _ (Kp.refl [] _).drew|exact KZ4.out _ (Kp.refl _ _)|exact KZ4.out _ ((Kp.refl [] _).drewN _)|exact KZ4.out _ (Kp.refl [] _).drew|exact KZ3.out _ (Kp.refl _ _)|exact KZ3.out _ ((Kp.refl [] _).drewN _)|exact KZ3.out _ (Kp.refl [] _).drew|fail)
      (first
      |(go_at_call 18;refine(HD1.out _ (by first|exact Kp.refl _ _|exact(Kp.refl [] w3).drewN _|exact(Kp.refl [] w3).drew)).mono ?_;rintro e w4 ⟨v1,rfl,p0,p1,HD⟩;have HD2:=As.mk (fun wX kX=>HD.out.done (wX:=wX) kX);have KZ4:As (∀wX,Kp [] w4 wX->(wX.cell? ⟨P,0,none⟩=some (.pointer (some ⟨Lb,0,none⟩))/\wX.cell? ⟨P,1,none⟩=some (.pointer (some ⟨Mb,0,none⟩)))):=⟨fun wX kX=>⟨kX.cell p0 (by simp),kX.cell p1 (by simp)⟩⟩)
      |(go_at_call 22;refine(HD2.out _ (by first|exact Kp.refl _ _|exact(Kp.refl [] w4).drewN _|exact(Kp.refl [] w4).drew)).mono ?_;rintro e w5 ⟨v2,rfl,p0,p1,HE⟩;have HE2:=As.mk (fun wX kX=>HE.out.results (wX:=wX) kX hi9);have KZ5:As (∀wX,Kp [] w5 wX->(wX.cell? ⟨P,0,none⟩=some (.pointer (some ⟨Lb,0,none⟩))/\wX.cell? ⟨P,1,none⟩=some (.pointer (some ⟨Mb,0,none⟩)))):=⟨fun wX kX=>⟨kX.cell p0 (by simp),kX.cell p1 (by simp)⟩⟩)
      |(go_at_call 21;refine(HE2.out _ (by first|exact Kp.refl _ _|exact(Kp.refl [] w5).drewN _|exact(Kp.refl [] w5).drew)).mono ?_;rintro e w6 ⟨rfl,p0,p1,HF⟩;have KZ6:As (∀wX,Kp [] w6 wX->(wX.cell? ⟨P,0,none⟩=some (.pointer (some ⟨Lb,0,none⟩))/\wX.cell? ⟨P,1,none⟩=some (.pointer (some ⟨Mb,0,none⟩)))):=⟨fun wX kX=>⟨kX.cell p0 (by simp),kX.cell p1 (by simp)⟩⟩)
      |(go_at_call 7;refine(HKN.out _).mono ?_;rintro e w7 ⟨rfl,k7⟩;have HK7:As (Kp [] w6 w7):=⟨Kp.trans (by first|exact Kp.refl _ _|exact(Kp.refl [] w6).drewN _|exact(Kp.refl [] w6).drew) k7 (by simp)⟩;have KZ7:As (∀wX,Kp [] w7 wX->(wX.cell? ⟨P,0,none⟩=some (.pointer (some ⟨Lb,0,none⟩))/\wX.cell? ⟨P,1,none⟩=some (.pointer (some ⟨Mb,0,none⟩)))):=⟨fun wX kX=>⟨(HK7.out.trans kX (by simp)).cell p0 (by simp),(HK7.out.trans kX (by simp)).cell p1 (by simp)⟩⟩;clear k7)
      |fail)
     go_wp2_with fail
     go_ret
     exact⟨rfl,((HK1.out.trans HF.out.kp (by simp)).trans HK7.out (by simp)).below⟩
    ·have i1:(i:Int)<(n:Int):=by omega
     have i2:¬(i:Int)<200:=by omega
     clear hgo e1 e2
     go_upto_region 15 with fail
     go_region_held3 (fun wX=>wX.cell? ⟨P,0,none⟩=some (.pointer (some ⟨Lb,0,none⟩))/\wX.cell? ⟨P,1,none⟩=some (.pointer (some ⟨Mb,0,none⟩)))
      (first|exact KZ7.out _ (Kp.refl _ _)|exact KZ7.out _ ((Kp.refl [] _).drewN _)|exact KZ7.out _ (Kp.refl [] _).drew|exact KZ6.out _ (Kp.refl _ _)|exact KZ6.out _ ((Kp.refl [] _).drewN _)|exact KZ6.out _ (Kp.refl [] _).drew|exact KZ5.out _ (Kp.refl _ _)|exact KZ5.out _ ((Kp.refl [] _).drewN _)|exact KZ5.out _ (Kp.refl [] _).drew|exact KZ4.out _ (Kp.refl _ _)|exact KZ4.out _ ((Kp.refl [] _).drewN _)|exact KZ4.out _ (Kp.refl [] _).drew|exact KZ3.out _ (Kp.refl _ _)|exact KZ3.out _ ((Kp.refl [] _).drewN _)|exact KZ3.out _ (Kp.refl [] _).drew|fail)
      (first
      |(go_at_call 18;refine(HD1.out _ (by first|exact Kp.refl _ _|exact(Kp.refl [] w3).drewN _|exact(Kp.refl [] w3).drew)).mono ?_;rintro e w4 ⟨v1,rfl,p0,p1,HD⟩;have HD2:=As.mk (fun wX kX=>HD.out.done (wX:=wX) kX);have KZ4:As (∀wX,Kp [] w4 wX->(wX.cell? ⟨P,0,none⟩=some (.pointer (some ⟨Lb,0,none⟩))/\wX.cell? ⟨P,1,none⟩=some (.pointer (some ⟨Mb,0,none⟩)))):=⟨fun wX kX=>⟨kX.cell p0 (by simp),kX.cell p1 (by simp)⟩⟩)
      |(go_at_call 22;refine(HD2.out _ (by first|exact Kp.refl _ _|exact(Kp.refl [] w4).drewN _|exact(Kp.refl [] w4).drew)).mono ?_;rintro e w5 ⟨v2,rfl,p0,p1,HE⟩;have HE2:=As.mk (fun wX kX=>HE.out.results (wX:=wX) kX hi9);have KZ5:As (∀wX,Kp [] w5 wX->(wX.cell? ⟨P,0,none⟩=some (.pointer (some ⟨Lb,0,none⟩))/\wX.cell? ⟨P,1,none⟩=some (.pointer (some ⟨Mb,0,none⟩)))):=⟨fun wX kX=>⟨kX.cell p0 (by simp),kX.cell p1 (by simp)⟩⟩)
      |(go_at_call 21;refine(HE2.out _ (by first|exact Kp.refl _ _|exact(Kp.refl [] w5).drewN _|exact(Kp.refl [] w5).drew)).mono ?_;rintro e w6 ⟨rfl,p0,p1,HF⟩;have KZ6:As (∀wX,Kp [] w6 wX->(wX.cell? ⟨P,0,none⟩=some (.pointer (some ⟨Lb,0,none⟩))/\wX.cell? ⟨P,1,none⟩=some (.pointer (some ⟨Mb,0,none⟩)))):=⟨fun wX kX=>⟨kX.cell p0 (by simp),kX.cell p1 (by simp)⟩⟩)
      |(go_at_call 7;refine(HKN.out _).mono ?_;rintro e w7 ⟨rfl,k7⟩;have HK7:As (Kp [] w6 w7):=⟨Kp.trans (by first|exact Kp.refl _ _|exact(Kp.refl [] w6).drewN _|exact(Kp.refl [] w6).drew) k7 (by simp)⟩;have KZ7:As (∀wX,Kp [] w7 wX->(wX.cell? ⟨P,0,none⟩=some (.pointer (some ⟨Lb,0,none⟩))/\wX.cell? ⟨P,1,none⟩=some (.pointer (some ⟨Mb,0,none⟩)))):=⟨fun wX kX=>⟨(HK7.out.trans kX (by simp)).cell p0 (by simp),(HK7.out.trans kX (by simp)).cell p1 (by simp)⟩⟩;clear k7)
      |fail)
     go_wp2_with fail
     go_ret
     exact⟨rfl,((HK1.out.trans HF.out.kp (by simp)).trans HK7.out (by simp)).below⟩
theorem cply_row(w:World)(id:Int)(_:(Lit.int .i64 id).wf=true)(pat:Int)(_:(Lit.int .i64 pat).wf=true)(tr:Int)(_:(Lit.int .i64 tr).wf=true)(A:Option Addr)(n c:Nat)(l:List ActV)(hn:l.length=n)(hr:ARd w A l)(hw:∀s∈l,Wf s.b)(hs:actSum l<=2097152):
 Calls Tryz.prog 4 #[.int .i64 id,.int .i64 pat,.int .i64 tr,.slice A n c] w fun e w'=>e= .returned (.bool true)/\Below w.heap.size w w':=cply_law w id pat tr A n c l hn hr hw hs
end Go.Proofs.YtdiljpdohmeceaaGreat.co
