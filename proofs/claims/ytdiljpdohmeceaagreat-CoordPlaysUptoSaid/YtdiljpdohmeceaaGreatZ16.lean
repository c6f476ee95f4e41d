/- Words and walks that this claim rests on: proved lemmas alone. -/
import Derived.Test.YtdiljpdohmeceaaGreatZ15
set_option maxHeartbeats 16000000
set_option maxRecDepth 100000
namespace Go.Proofs.YtdiljpdohmeceaaGreat.ref22
open Go.RowKit H O opk frame co wir joins
theorem decRep_err(A:Option Addr)(n c:Nat)(xs:List Int)(er:Int)(w:World)(hn:xs.length=n)(hr:Rd w A (iv .u8 xs))(hc:n<=c)(hw:Wf xs)(hm:n<=140737488351232)(he:(fOne xs).2=er)(h0:er≠0):
 Calls Tryz.prog 123 #[.slice A n c] w (DWR xs w):=by
 have HD:=As.mk (dWRep_err (xs:=xs) (er:=er) (by rw[rd3,if_pos (by rw[he];exact h0)];exact he) h0)
 have HQ1:=As.mk (rpr.Q4.new w (.int .i64 0) (.int .i64 0) (.int .i64 0) (.slice none 0 0))
 have HK1:=As.mk ((Kp.refl [] w).alloc (.cells #[.int .i64 0,.int .i64 0,.int .i64 0,.slice none 0 0] 55))
 have H1:As (∀wX,Kp [] w wX->Calls Tryz.prog 33 #[.slice A n c] wX fun e w'=>∃v,e= .returned (.tuple #[v,.int .i64 er])/\Kp [] wX w'):=⟨fun wX kX=>by
  refine(ref8.one_any A n c xs wX hn (kX.rd_new hr (by simp)) hc hw hm).mono ?_
  rintro e w' ⟨v,rfl,o,k⟩
  rw[he]
  exact⟨v,rfl,k⟩⟩
 have HO:=As.mk (H1.out _ HK1.out)
 have bne:(er==0)=false:=by simpa using h0
 have bne2:(er !=0)=true:=by simpa using h0
 clear hn hr hc hw hm he h0 H1
 go_enter Tryz.func123,Tryz.ntmps123
 go_wp2_with (go_at_call 33;refine HO.out.mono ?_;rintro e w2 ⟨v2,rfl,k2⟩;have HK2:=As.mk (HK1.out.trans k2 (by simp));have HQ2:=As.mk (HQ1.out.kp k2 (by simp));obtain⟨q0,q1,q2,q3⟩:=HQ2.out.cells;have f0:=HQ2.out.free 0;have f1:=HQ2.out.free 1;have f2:=HQ2.out.free 2;have f3:=HQ2.out.free 3;clear k2 HO)
 have hz:=HQ2.out.set (.int .i64 0) (.int .i64 0) (.int .i64 0) (.slice none 0 0)
 (try simp only[Exit.inBlock,Exit.then])
 refine bodyPost_ret (hz.1.res rfl rfl) rfl ?_
 exact⟨none,0,0,by rw[HD.out];rfl,by rw[HD.out];exact Own.nil _ _ _ _,HK2.out.trans hz.2 (by intro x hx;simp at hx;right;omega)⟩
theorem decRep_bad(A:Option Addr)(n c:Nat)(xs p dat m:List Int)(s1 s2 s3 s4 s5:Option (List Int))(n0 n1 n2:Nat)(w:World)(hn:xs.length=n)(hr:Rd w A (iv .u8 xs))(hc:n<=c)(hw:Wf xs)(hm:n<=140737488351232)
 (hf:fOne xs=(p,0)) (h0:stRaw 1 (some p)=(m,s1)) (h1:stNum s1=(n0,s2)) (h2:stNum s2=(n1,s3)) (h3:stNum s3=(n2,s4)) (h4:stBytes s4=(dat,s5)) (hs:refr.whole s5=false) (hn2:n2<=4611686018427387904):
 Calls Tryz.prog 123 #[.slice A n c] w (DWR xs w):=by
 have HD:As (dWRep xs=(⟨0,0,0,[]⟩,3)):=⟨by rw[dWRep_cases hf h0 h1 h2 h3 h4,if_neg];rintro⟨h,_⟩;rw[h] at hs;simp[refr.whole] at hs⟩
 obtain⟨N,hN⟩:∃k,p.length=k:=⟨_,rfl⟩
 obtain⟨D,hD⟩:∃k,dat.length=k:=⟨_,rfl⟩
 obtain⟨x2,hx2⟩:∃x:Int,(n2:Int)=x:=⟨_,rfl⟩
 have hx9:0<=x2/\x2<=4611686018427387904:=by omega
 have hpw:Wf p:=by have:=fOne_wf hw;rwa[hf] at this
 have hps:p.length<=1100000:=by have:=fOne_small (b:=xs);rw[hf] at this;simp only at this;omega
 have hs1l:(left s1).length<=1100000:=by
  by_cases hp:1<=p.length
  ·rw[show(1:Int)=((1:Nat):Int) from rfl,refr.stRaw_good (s:=some p) (m:=1) (by simpa [left] using hp)] at h0
   cases h0
   simp[left];omega
  ·rw[refr.stRaw_bad (s:=some p) (.inr (by simp[left];omega))] at h0
   cases h0
   simp[left]
 have H1:As (∀wX,Kp [] w wX->Calls Tryz.prog 33 #[.slice A n c] wX fun e w'=>∃A2 c2,e= .returned (.tuple #[.slice A2 N c2,.int .i64 0])/\Own 5 .u8 w' wX.heap.size (.slice A2 N c2) p/\Kp [] wX w'):=⟨fun wX kX=>by
  refine(ref8.one_any A n c xs wX hn (kX.rd_new hr (by simp)) hc hw hm).mono ?_
  rintro e w' ⟨v,rfl,o,k⟩
  rw[hf] at o⊢
  obtain⟨A2,c2,rfl,_⟩:=own_rd o.1
  rw[hN] at o⊢
  exact⟨A2,c2,rfl,o,k⟩⟩
 have HK1:=As.mk ((Kp.refl [] w).alloc (.cells #[.int .i64 0,.int .i64 0,.int .i64 0,.slice none 0 0] 55))
 have HO:=As.mk (H1.out _ HK1.out)
 have HBX:As (∀w2 A2 c2 lo,Own 5 .u8 w2 lo (.slice A2 N c2) p->Kp [] (w.alloc (.cells #[.int .i64 0,.int .i64 0,.int .i64 0,.slice none 0 0] 55)) w2->FD (.cells #[.int .i64 0,.int .i64 0,.int .i64 0,.slice none 0 0] 55) w (w2.alloc (.cells #[.slice A2 N c2,.bool false] 106)) w2.heap.size (some p)):=⟨fun w2 A2 c2 lo o k=>FD.box rfl k o hpw hps ⟨_,_,rfl⟩ rfl⟩
 have HRA:As (∀wX X,FD (.cells #[.int .i64 0,.int .i64 0,.int .i64 0,.slice none 0 0] 55) w wX X (some p)->_):=⟨fun wX X h=>h.raw h0 hs1l⟩
 have HN1:As (∀wX X,FD (.cells #[.int .i64 0,.int .i64 0,.int .i64 0,.slice none 0 0] 55) w wX X s1->_):=⟨fun wX X h=>h.num h1⟩
 have HN2:As (∀wX X,FD (.cells #[.int .i64 0,.int .i64 0,.int .i64 0,.slice none 0 0] 55) w wX X s2->_):=⟨fun wX X h=>h.num h2⟩
 have HN3:As (∀wX X,FD (.cells #[.int .i64 0,.int .i64 0,.int .i64 0,.slice none 0 0] 55) w wX X s3->_):=⟨fun wX X h=>h.num h3⟩
 have HBY:As (∀wX X,FD (.cells #[.int .i64 0,.int .i64 0,.int .i64 0,.slice none 0 0] 55) w wX X s4->_):=⟨fun wX X h=>h.bytes h4 hD⟩
 have HWH:As (∀wX X,FD (.cells #[.int .i64 0,.int .i64 0,.int .i64 0,.slice none 0 0] 55) w wX X s5->Calls Tryz.prog 37 #[.pointer (some ⟨X,0,none⟩)] wX fun e w5=>e= .returned (.bool false)/\As (FD (.cells #[.int .i64 0,.int .i64 0,.int .i64 0,.slice none 0 0] 55) w w5 X s5)):=⟨fun wX X h=>by
  refine h.whole.mono ?_
  rw[hs]
  rintro e w5 ⟨rfl,rfl⟩
  exact⟨rfl,⟨h⟩⟩⟩
 rw[hx2] at HN3
 clear hn hr hc hw hm hf h0 h1 h2 h3 h4 hs hn2 hN hD hx2 hpw hps hs1l H1
 go_enter Tryz.func123,Tryz.ntmps123
 go_wp2_with (first
  |(go_at_call 33;refine HO.out.mono ?_;rintro e w2 ⟨A2,c2,rfl,o2,k2⟩;have HF2:=As.mk (HBX.out w2 A2 c2 _ o2 k2);have HC2:=As.mk (HRA.out _ _ HF2.out);clear o2 k2 HO HBX HRA)
  |(go_at_call 34;refine HC2.out.mono ?_;rintro e w3 ⟨v3,rfl,h3,o3,k3⟩;have HC3:=As.mk (HN1.out _ _ h3);clear h3 o3 k3 HC2 HN1)
  |(go_at_call 35;refine HC3.out.mono ?_;rintro e w4 ⟨rfl,h4,k4⟩;have HC4:=As.mk (HN2.out _ _ h4);clear h4 k4 HC3 HN2)
  |(go_at_call 35;refine HC4.out.mono ?_;rintro e w5 ⟨rfl,h5,k5⟩;have HC5:=As.mk (HN3.out _ _ h5);clear h5 k5 HC4 HN3)
  |(go_at_call 35;refine HC5.out.mono ?_;rintro e w6 ⟨rfl,h6,k6⟩;have HC6:=As.mk (HBY.out _ _ h6);clear h6 k6 HC5 HBY)
  |(go_at_call 36;refine HC6.out.mono ?_;rintro e w7 ⟨A7,c7,rfl,H7⟩;have HF7:As (∀o,FD (.cells #[.int .i64 0,.int .i64 0,.int .i64 0,.slice none 0 0] 55) w (w7.alloc o) w2.heap.size s5):=⟨fun o=>H7.out.1.skip o rfl⟩;clear HC6)
  |(go_at_call 37;refine(HWH.out _ _ (HF7.out _)).mono ?_;rintro e w8 ⟨rfl,HF8⟩;have HQ8:As (rpr.Q4 w8 w.heap.size (.int .i64 0) (.int .i64 0) (.int .i64 0) (.slice none 0 0)):=⟨HF8.out.res⟩;have HK8:=As.mk HF8.out.kp;obtain⟨q0,q1,q2,q3⟩:=HQ8.out.cells;have f0:=HQ8.out.free 0;have f1:=HQ8.out.free 1;have f2:=HQ8.out.free 2;have f3:=HQ8.out.free 3;clear HWH))
 have hz:=HQ8.out.set (.int .i64 0) (.int .i64 0) (.int .i64 0) (.slice none 0 0)
 (try simp only[Exit.inBlock,Exit.then])
 refine bodyPost_ret (hz.1.res rfl rfl) rfl ?_
 exact⟨none,0,0,by rw[HD.out];rfl,by rw[HD.out];exact Own.nil _ _ _ _,HK8.out.trans hz.2 (by intro x hx;simp at hx;right;omega)⟩
theorem decRep_good(A:Option Addr)(n c:Nat)(xs dat r:List Int)(mk:Int)(s2 s3 s4:Option (List Int))(n0 n1 n2:Nat)(w:World)(hn:xs.length=n)(hr:Rd w A (iv .u8 xs))(hc:n<=c)(hw:Wf xs)(hm:n<=140737488351232)
 (hf:fOne xs=(mk::r,0)) (h1:stNum (some r)=(n0,s2)) (h2:stNum s2=(n1,s3)) (h3:stNum s3=(n2,s4)) (h4:stBytes s4=(dat,some [])) (hn2:n2<=4611686018427387904):
 Calls Tryz.prog 123 #[.slice A n c] w (DWR xs w):=by
 have hpw:Wf (mk::r):=by have:=fOne_wf hw;rwa[hf] at this
 have hps:(mk::r).length<=1100000:=by have:=fOne_small (b:=xs);rw[hf] at this;simp only at this;omega
 have h0:stRaw 1 (some (mk::r))=([mk],some r):=by
  rw[O.stRaw]
  rw[if_neg (by simp only[List.length_cons];omega)]
  rfl
 have hs1l:(left (some r)).length<=1100000:=by simp only[List.length_cons] at hps;simp[left];omega
 obtain⟨N,hN⟩:∃k,(mk::r).length=k:=⟨_,rfl⟩
 obtain⟨D,hD⟩:∃k,dat.length=k:=⟨_,rfl⟩
 obtain⟨x2,hx2⟩:∃x:Int,(n2:Int)=x:=⟨_,rfl⟩
 have hx9:0<=x2/\x2<=4611686018427387904:=by omega
 obtain⟨er,her⟩:∃x:Int,rpErr n0 n1 (x2-1) D=x:=⟨_,rfl⟩
 have hDW:dWRep xs=if mk=114/\er=0 then(⟨n0,n1,x2-1,dat⟩,0) else(⟨0,0,0,[]⟩,3):=by
  rw[dWRep_cases hf h0 h1 h2 h3 h4,hx2,hD,her]
  by_cases hq:mk=114/\er=0
  ·rw[if_pos ⟨rfl,by rw[hq.1],hq.2⟩,if_pos hq]
  ·rw[if_neg (fun h=>hq ⟨by simpa using h.2.1,h.2.2⟩),if_neg hq]
 have HDW:=As.mk hDW
 have HMY:As (∀v wX,v= .slice none 0 0\/(∃A c,v= .slice A D c)->Calls Tryz.prog 40 #[.agg #[.int .i64 n0,.int .i64 n1,.int .i64 (x2-1),v]] wX fun e w'=>(∃A c,v= .slice A D c)->e= .returned (.int .i64 er)/\Kp [] wX w'):=⟨fun v wX hv=>by
  rcases hv with rfl|⟨A,c,rfl⟩
  ·exact(may_any n0 n1 (x2-1) none 0 0 wX).mono (fun e w' h hv=>by
    obtain⟨A,c,hv⟩:=hv
    cases hv
    rw[her] at h
    exact h)
  ·refine(may_any n0 n1 (x2-1) A D c wX).mono ?_
   rw[her]
   exact fun e w' h _=>h⟩
 have HMY2:As (∀A c wX,Calls Tryz.prog 40 #[.agg #[.int .i64 n0,.int .i64 n1,.int .i64 (x2-1),.slice A D c]] wX fun e w'=>e= .returned (.int .i64 er)/\Kp [] wX w'):=⟨fun A c wX=>(HMY.out _ wX (.inr ⟨A,c,rfl⟩)).mono (fun e w' h=>h ⟨A,c,rfl⟩)⟩
 have H1:As (∀wX,Kp [] w wX->Calls Tryz.prog 33 #[.slice A n c] wX fun e w'=>∃A2 c2,e= .returned (.tuple #[.slice A2 N c2,.int .i64 0])/\Own 5 .u8 w' wX.heap.size (.slice A2 N c2) (mk::r)/\Kp [] wX w'):=⟨fun wX kX=>by
  refine(ref8.one_any A n c xs wX hn (kX.rd_new hr (by simp)) hc hw hm).mono ?_
  rintro e w' ⟨v,rfl,o,k⟩
  rw[hf] at o⊢
  obtain⟨A2,c2,rfl,_⟩:=own_rd o.1
  rw[hN] at o⊢
  exact⟨A2,c2,rfl,o,k⟩⟩
 have HK1:=As.mk ((Kp.refl [] w).alloc (.cells #[.int .i64 0,.int .i64 0,.int .i64 0,.slice none 0 0] 55))
 have HO:=As.mk (H1.out _ HK1.out)
 have HBX:As (∀w2 A2 c2 lo,Own 5 .u8 w2 lo (.slice A2 N c2) (mk::r)->Kp [] (w.alloc (.cells #[.int .i64 0,.int .i64 0,.int .i64 0,.slice none 0 0] 55)) w2->FD (.cells #[.int .i64 0,.int .i64 0,.int .i64 0,.slice none 0 0] 55) w (w2.alloc (.cells #[.slice A2 N c2,.bool false] 106)) w2.heap.size (some (mk::r))):=⟨fun w2 A2 c2 lo o k=>FD.box rfl k o hpw hps ⟨_,_,rfl⟩ rfl⟩
 have HRA:As (∀wX X,FD (.cells #[.int .i64 0,.int .i64 0,.int .i64 0,.slice none 0 0] 55) w wX X (some (mk::r))->Calls Tryz.prog 34 #[.pointer (some ⟨X,0,none⟩),.int .i64 1] wX fun e w5=>∃gv c3,e= .returned (.slice (some ⟨gv,0,none⟩) 1 c3)/\FD (.cells #[.int .i64 0,.int .i64 0,.int .i64 0,.slice none 0 0] 55) w w5 X (some r)/\As (X<gv/\w5.cell? ⟨gv,0,none⟩=some (.int .u8 mk))):=⟨fun wX X h=>by
  have hX:X<wX.heap.size:=by obtain⟨g,R⟩:=h.rdr;exact R.lt
  refine(h.raw h0 hs1l).mono ?_
  rintro e w5 ⟨v,rfl,hF,o,k⟩
  have hlo:=o.2
  obtain⟨gv,cp,rfl,_⟩:=own_form o.1 (by simp)
  refine⟨gv,cp,rfl,hF,⟨?_, ?_⟩⟩
  ·have:=hlo gv rfl
   omega
  ·have:=o.1.cellAt 0 (by simp)
   rw[show(iv .u8 [mk])[0]?=some (.int .u8 mk) from rfl] at this
   simpa using this⟩
 have HN1:As (∀wX X,FD (.cells #[.int .i64 0,.int .i64 0,.int .i64 0,.slice none 0 0] 55) w wX X (some r)->_):=⟨fun wX X h=>h.num h1⟩
 have HN2:As (∀wX X,FD (.cells #[.int .i64 0,.int .i64 0,.int .i64 0,.slice none 0 0] 55) w wX X s2->_):=⟨fun wX X h=>h.num h2⟩
 have HN3:As (∀wX X,FD (.cells #[.int .i64 0,.int .i64 0,.int .i64 0,.slice none 0 0] 55) w wX X s3->_):=⟨fun wX X h=>h.num h3⟩
 have HBY:As (∀wX X,FD (.cells #[.int .i64 0,.int .i64 0,.int .i64 0,.slice none 0 0] 55) w wX X s4->_):=⟨fun wX X h=>h.bytes h4 hD⟩
 have HWH:As (∀wX X,FD (.cells #[.int .i64 0,.int .i64 0,.int .i64 0,.slice none 0 0] 55) w wX X (some [])->Calls Tryz.prog 37 #[.pointer (some ⟨X,0,none⟩)] wX fun e w5=>e= .returned (.bool true)/\w5=wX):=⟨fun wX X h=>by
  refine h.whole.mono ?_
  rintro e w5 ⟨rfl,rfl⟩
  exact⟨rfl,rfl⟩⟩
 rw[hx2] at HN3
 clear hn hr hc hw hm hf h0 h1 h2 h3 h4 hn2 hN hD hx2 hpw hps hs1l H1 her HMY hDW
 have D3:(mk !=114)=true\/(mk=114/\(er !=0)=true)\/(mk=114/\er=0):=by
  by_cases a:mk=114
  ·by_cases b:er=0
   ·exact .inr (.inr ⟨a,b⟩)
   ·exact .inr (.inl ⟨a,by simpa using b⟩)
  ·exact .inl (by simpa using a)
 rcases D3 with d1|⟨rfl,d2⟩|⟨rfl,rfl⟩
 all_goals
  go_enter Tryz.func123,Tryz.ntmps123
  go_wp2_with (first
   |(go_at_call 33;refine HO.out.mono ?_;rintro e w2 ⟨A2,c2,rfl,o2,k2⟩;have HF2:=As.mk (HBX.out w2 A2 c2 _ o2 k2);have HC2:=As.mk (HRA.out _ _ HF2.out);clear o2 k2 HO HBX HRA)
   |(go_at_call 34;refine HC2.out.mono ?_;rintro e w3 ⟨gv,c3,rfl,h3,HM3⟩;have HC3:=As.mk (HN1.out _ _ h3);clear h3 HC2 HN1)
   |(go_at_call 35;refine HC3.out.mono ?_;rintro e w4 ⟨rfl,h4,k4⟩;have HM4:=As.mk (k4.cell HM3.out.2 (by have:=HM3.out.1;simp;omega));have HC4:=As.mk (HN2.out _ _ h4);clear h4 k4 HC3 HN2)
   |(go_at_call 35;refine HC4.out.mono ?_;rintro e w5 ⟨rfl,h5,k5⟩;have HM5:=As.mk (k5.cell HM4.out (by have:=HM3.out.1;simp;omega));have HC5:=As.mk (HN3.out _ _ h5);clear h5 k5 HC4 HN3)
   |(go_at_call 35;refine HC5.out.mono ?_;rintro e w6 ⟨rfl,h6,k6⟩;have HM6:=As.mk (k6.cell HM5.out (by have:=HM3.out.1;simp;omega));have HC6:=As.mk (HBY.out _ _ h6);clear h6 k6 HC5 HBY)
   |(go_at_call 36;refine HC6.out.mono ?_;rintro e w7 ⟨A7,c7,rfl,H7⟩;have m7:=H7.out.2.2.cell HM6.out (by have:=HM3.out.1;simp;omega);have m8:=((Kp.refl [] w7).alloc (.cells #[.int .i64 n0,.int .i64 n1,.int .i64 (x2-1),.slice A7 D c7] 55)).cell m7 (by simp);have HF7:=As.mk (H7.out.1.skip (.cells #[.int .i64 n0,.int .i64 n1,.int .i64 (x2-1),.slice A7 D c7] 55) rfl);have HWX:=As.mk (HWH.out _ _ HF7.out);have HQ7:As (rpr.Q4 (w7.alloc (.cells #[.int .i64 n0,.int .i64 n1,.int .i64 (x2-1),.slice A7 D c7] 55)) w.heap.size (.int .i64 0) (.int .i64 0) (.int .i64 0) (.slice none 0 0)):=⟨HF7.out.res⟩;obtain⟨t0,t1,t2,t3⟩:=(rpr.Q4.new w7 (.int .i64 n0) (.int .i64 n1) (.int .i64 (x2-1)) (.slice A7 D c7)).cells;obtain⟨q0,q1,q2,q3⟩:=HQ7.out.cells;have f0:=HQ7.out.free 0;have f1:=HQ7.out.free 1;have f2:=HQ7.out.free 2;have f3:=HQ7.out.free 3;clear HC6 m7 HWH)
   |(go_at_call 37;refine HWX.out.mono ?_;rintro e w8 ⟨rfl,rfl⟩;clear HWX)
   |(go_at_call 40;refine(HMY2.out _ _ _).mono ?_;rintro e w9 ⟨rfl,k9⟩;have HK9:=As.mk (HF7.out.kp.trans k9 (by simp));have HQ9:=As.mk (HQ7.out.kp k9 (by simp));have HO9:=As.mk (H7.out.2.1.kp (((Kp.refl [] w7).alloc (.cells #[.int .i64 n0,.int .i64 n1,.int .i64 (x2-1),.slice A7 D c7] 55)).trans k9 (by simp)) (by simp));obtain⟨u0,u1,u2,u3⟩:=((rpr.Q4.new w7 (.int .i64 n0) (.int .i64 n1) (.int .i64 (x2-1)) (.slice A7 D c7)).kp k9 (by simp)).cells;obtain⟨v0,v1,v2,v3⟩:=HQ9.out.cells;have g0:=HQ9.out.free 0;have g1:=HQ9.out.free 1;have g2:=HQ9.out.free 2;have g3:=HQ9.out.free 3;clear k9 HMY2))
 ·have hz:=HQ7.out.set (.int .i64 0) (.int .i64 0) (.int .i64 0) (.slice none 0 0)
  have hd:dWRep xs=(⟨0,0,0,[]⟩,3):=by rw[HDW.out,if_neg (fun h=>by rw[h.1] at d1;simp at d1)]
  (try simp only[Exit.inBlock,Exit.then])
  refine bodyPost_ret (hz.1.res rfl rfl) rfl ?_
  exact⟨none,0,0,by rw[hd];rfl,by rw[hd];exact Own.nil _ _ _ _,HF7.out.kp.trans hz.2 (by intro x hx;simp at hx;right;omega)⟩
 ·have hz:=HQ9.out.set (.int .i64 0) (.int .i64 0) (.int .i64 0) (.slice none 0 0)
  have hd:dWRep xs=(⟨0,0,0,[]⟩,3):=by rw[HDW.out,if_neg (fun h=>by rw[h.2] at d2;simp at d2)]
  (try simp only[Exit.inBlock,Exit.then])
  refine bodyPost_ret (hz.1.res rfl rfl) rfl ?_
  exact⟨none,0,0,by rw[hd];rfl,by rw[hd];exact Own.nil _ _ _ _,HK9.out.trans hz.2 (by intro x hx;simp at hx;right;omega)⟩
 ·have hz:=HQ9.out.set (.int .i64 n0) (.int .i64 n1) (.int .i64 (x2-1)) (.slice A7 D c7)
  have hd:dWRep xs=(⟨n0,n1,x2-1,dat⟩,0):=by rw[HDW.out];simp
  (try simp only[Exit.inBlock,Exit.then])
  refine bodyPost_ret (hz.1.res rfl rfl) rfl ?_
  refine⟨A7,D,c7,by rw[hd];rfl, ?_,HK9.out.trans hz.2 (by intro x hx;simp at hx;right;omega)⟩
  rw[hd]
  exact(HO9.out.kp hz.2 (fun g hg=>by have:=HO9.out.2 g hg;simp;omega)).lower (by omega)
theorem decReply_any(A:Option Addr)(n c:Nat)(xs:List Int)(w:World)(hn:xs.length=n)(hr:Rd w A (iv .u8 xs))(hc:n<=c)(hw:Wf xs)(hm:n<=140737488351232):
 Calls Tryz.prog 123 #[.slice A n c] w (DWR xs w):=by
 by_cases h0:(fOne xs).2=0
 ·obtain⟨p,hp⟩:∃p,(fOne xs).1=p:=⟨_,rfl⟩
  have hf:fOne xs=(p,0):=Prod.ext hp h0
  obtain⟨m,s1,e0⟩:∃a b,stRaw 1 (some p)=(a,b):=⟨_,_,rfl⟩
  obtain⟨n0,s2,e1⟩:∃a b,stNum s1=(a,b):=⟨_,_,rfl⟩
  obtain⟨n1,s3,e2⟩:∃a b,stNum s2=(a,b):=⟨_,_,rfl⟩
  obtain⟨n2,s4,e3⟩:∃a b,stNum s3=(a,b):=⟨_,_,rfl⟩
  obtain⟨dat,s5,e4⟩:∃a b,stBytes s4=(a,b):=⟨_,_,rfl⟩
  have hn2:n2<=4611686018427387904:=by have:=stNum_bd s3;rw[e3] at this;exact this
  by_cases h5:s5=some []
  ·subst h5
   cases p with
   |nil=>
    have:stRaw 1 (some [])=([],none):=rfl
    rw[this] at e0
    cases e0
    have:stNum none=(0,none):=rfl
    rw[this] at e1;cases e1
    rw[this] at e2;cases e2
    rw[this] at e3;cases e3
    cases e4
   |cons mk r=>
    have:stRaw 1 (some (mk::r))=([mk],some r):=by
     rw[O.stRaw]
     rw[if_neg (by simp only[List.length_cons];omega)]
     rfl
    rw[this] at e0
    cases e0
    exact decRep_good A n c xs dat r mk s2 s3 s4 n0 n1 n2 w hn hr hc hw hm hf e1 e2 e3 e4 hn2
  ·exact decRep_bad A n c xs p dat m s1 s2 s3 s4 s5 n0 n1 n2 w hn hr hc hw hm hf e0 e1 e2 e3 e4 (by rw[Bool.eq_false_iff];intro h;exact h5 (by simpa [refr.whole] using h)) hn2
 ·exact decRep_err A n c xs _ w hn hr hc hw hm rfl h0
end Go.Proofs.YtdiljpdohmeceaaGreat.ref22
namespace Go.Proofs.YtdiljpdohmeceaaGreat.rqr
open Go.RowKit H O
def Q4(w:World)(R:Nat)(a b c v:Value):Prop:=w.heap[R]?=some (.cells #[a,b,c,v] 40)
theorem Q4.cells{w:World}{R:Nat}{a b c v:Value}(h:Q4 w R a b c v):w.cell? ⟨R,0,none⟩=some a/\w.cell? ⟨R,1,none⟩=some b/\w.cell? ⟨R,2,none⟩=some c/\w.cell? ⟨R,3,none⟩=some v:=⟨bkc h 0 rfl,bkc h 1 rfl,bkc h 2 rfl,bkc h 3 rfl⟩
theorem Q4.new(w:World)(a b c v:Value):Q4 (w.alloc (.cells #[a,b,c,v] 40)) w.heap.size a b c v:=heap_alloc_new w _
theorem Q4.kp{S:List Nat}{w w1:World}{R:Nat}{a b c v:Value}(h:Q4 w R a b c v)(hk:Kp S w w1)(hb:R∉S):Q4 w1 R a b c v:=hk.blk h hb
theorem Q4.free{w:World}{R:Nat}{a b c v:Value}(h:Q4 w R a b c v)(j:Nat):w.frozen? ⟨R,j,none⟩=false:=blk_free h j
theorem Q4.res{fn:Func}{tmps:Array Value}{w:World}{R:Nat}{a b c v:Value}(h:Q4 w R a b c v)(hf:fn.results= #[.cell 2 40,.tmp 3])(h2:tmps.getD 2 undef= .pointer (some ⟨R,0,none⟩)):
 (results fn tmps).run Tryz.prog w= .ok (.tuple #[.agg #[a,b,c,v],tmps.getD 3 undef]) w:=by
 have hl:=run_loadVar_row (P:=Tryz.prog) w R 40 40 _ (0,0) _ h Tryz.underlying40 rfl (by kernel_rfl)
 rw[results_cell_tmp hf,h2]
 simp[asAddr,hl,Result.andThen]
theorem Q4.set{w:World}{R:Nat}{a b c v:Value}(h:Q4 w R a b c v)(a2 b2 c2 v2:Value):
 Q4 ((((w.setCell ⟨R,0,none⟩ a2).setCell ⟨R,1,none⟩ b2).setCell ⟨R,2,none⟩ c2).setCell ⟨R,3,none⟩ v2) R a2 b2 c2 v2/\Kp [R] w ((((w.setCell ⟨R,0,none⟩ a2).setCell ⟨R,1,none⟩ b2).setCell ⟨R,2,none⟩ c2).setCell ⟨R,3,none⟩ v2):=by
 have e1:Q4 (w.setCell ⟨R,0,none⟩ a2) R a2 b c v:=heap_setCell_same w R 0 _ _ a2 h
 have e2:Q4 ((w.setCell ⟨R,0,none⟩ a2).setCell ⟨R,1,none⟩ b2) R a2 b2 c v:=heap_setCell_same _ R 1 _ _ b2 e1
 have e3:Q4 (((w.setCell ⟨R,0,none⟩ a2).setCell ⟨R,1,none⟩ b2).setCell ⟨R,2,none⟩ c2) R a2 b2 c2 v:=heap_setCell_same _ R 2 _ _ c2 e2
 exact⟨heap_setCell_same _ R 3 _ _ v2 e3,((((Kp.refl _ w).setCell (.inl (by simp)) _).setCell (.inl (by simp)) _).setCell (.inl (by simp)) _).setCell (.inl (by simp)) _⟩
end Go.Proofs.YtdiljpdohmeceaaGreat.rqr
namespace Go.Proofs.YtdiljpdohmeceaaGreat.ref22
open Go.RowKit H O opk frame co wir joins
def rqErr(k c s:Int)(n:Nat):Int:=if rqOk k c s=false then 1 else if 8192<n then 5 else 0
theorem rqOk_iff{k c s:Int}:rqOk k c s=true↔(1<=k/\k<=4)/\(0<=c/\c<=1099511627776)/\(0<=s/\s<=255):=by
 unfold rqOk
 simp only[Bool.and_eq_true,decide_eq_true_eq]
 exact⟨fun h=>⟨h.1.1,h.1.2,h.2⟩,fun h=>⟨⟨h.1,h.2.1⟩,h.2.2⟩⟩
theorem rqErr_one{k c s:Int}(n:Nat)(h:¬((1<=k/\k<=4)/\(0<=c/\c<=1099511627776)/\(0<=s/\s<=255))):rqErr k c s n=1:=by
 rw[rqErr,if_pos]
 rw[Bool.eq_false_iff]
 exact fun e=>h (rqOk_iff.1 e)
theorem rmay_any(k c s:Int)(A:Option Addr)(n cp:Nat)(w:World):Calls Tryz.prog 38 #[.agg #[.int .i64 k,.int .i64 c,.int .i64 s,.slice A n cp]] w fun e w'=>e= .returned (.int .i64 (rqErr k c s n))/\Kp [] w w':=by
 have HK:As (Kp [] w (w.alloc (.cells #[.int .i64 k,.int .i64 c,.int .i64 s,.slice A n cp] 40))):=⟨(Kp.refl [] w).alloc _⟩
 by_cases a1:k<1
 ·have HR:=As.mk (rqErr_one (k:=k) (c:=c) (s:=s) n (by omega))
  rw[HR.out]
  go_enter Tryz.func38,Tryz.ntmps38
  go_wp2
  go_ret
  exact⟨rfl,HK.out⟩
 by_cases a2:4<k
 ·have HR:=As.mk (rqErr_one (k:=k) (c:=c) (s:=s) n (by omega))
  rw[HR.out]
  go_enter Tryz.func38,Tryz.ntmps38
  go_wp2
  go_ret
  exact⟨rfl,HK.out⟩
 by_cases a3:c<0
 ·have HR:=As.mk (rqErr_one (k:=k) (c:=c) (s:=s) n (by omega))
  rw[HR.out]
  go_enter Tryz.func38,Tryz.ntmps38
  go_wp2
  go_ret
  exact⟨rfl,HK.out⟩
 by_cases a4:1099511627776<c
 ·have HR:=As.mk (rqErr_one (k:=k) (c:=c) (s:=s) n (by omega))
  rw[HR.out]
  go_enter Tryz.func38,Tryz.ntmps38
  go_wp2
  go_ret
  exact⟨rfl,HK.out⟩
 by_cases a5:s<0
 ·have HR:=As.mk (rqErr_one (k:=k) (c:=c) (s:=s) n (by omega))
  rw[HR.out]
  go_enter Tryz.func38,Tryz.ntmps38
  go_wp2
  go_ret
  exact⟨rfl,HK.out⟩
 by_cases a6:255<s
 ·have HR:=As.mk (rqErr_one (k:=k) (c:=c) (s:=s) n (by omega))
  rw[HR.out]
  go_enter Tryz.func38,Tryz.ntmps38
  go_wp2
  go_ret
  exact⟨rfl,HK.out⟩
 have hk:rqOk k c s=true:=rqOk_iff.2 (by omega)
 by_cases a7:(8192:Int)<(n:Int)
 ·have HR:As (rqErr k c s n=5):=⟨by rw[rqErr,if_neg (by rw[hk];simp),if_pos (by omega)]⟩
  rw[HR.out]
  clear hk
  go_enter Tryz.func38,Tryz.ntmps38
  go_wp2
  go_ret
  exact⟨rfl,HK.out⟩
 ·have HR:As (rqErr k c s n=0):=⟨by rw[rqErr,if_neg (by rw[hk];simp),if_neg (by omega)]⟩
  rw[HR.out]
  clear hk
  go_enter Tryz.func38,Tryz.ntmps38
  go_wp2
  go_ret
  exact⟨rfl,HK.out⟩
def dWReq(xs:List Int):WRep×Int:=
 if(rd3 113 8192 xs).2.2≠0 then(⟨0,0,0,[]⟩,(rd3 113 8192 xs).2.2)
 else if rqOk ((rd3 113 8192 xs).1.getD 0 0) ((rd3 113 8192 xs).1.getD 1 0) ((rd3 113 8192 xs).1.getD 2 0)=true then
  (⟨(rd3 113 8192 xs).1.getD 0 0,(rd3 113 8192 xs).1.getD 1 0,(rd3 113 8192 xs).1.getD 2 0,(rd3 113 8192 xs).2.1⟩,0)
 else(⟨0,0,0,[]⟩,3)
theorem dWReq_err{xs:List Int}{er:Int}(h:(rd3 113 8192 xs).2.2=er)(h0:er≠0):dWReq xs=(⟨0,0,0,[]⟩,er):=by rw[dWReq,if_pos (by rw[h];exact h0),h]
def DWQ(xs:List Int)(w:World)(e:Ending)(w':World):Prop:=
 ∃A n c,e= .returned (.tuple #[.agg #[.int .i64 (dWReq xs).1.ctx,.int .i64 (dWReq xs).1.err,.int .i64 (dWReq xs).1.hint,.slice A n c],.int .i64 (dWReq xs).2])/\Own 5 .u8 w' w.heap.size (.slice A n c) (dWReq xs).1.data/\Kp [] w w'
theorem dWReq_cases{xs p dat:List Int}{m:List Int}{s1 s2 s3 s4 s5:Option (List Int)}{n0 n1 n2:Nat}(hf:fOne xs=(p,0))(h0:stRaw 1 (some p)=(m,s1))(h1:stNum s1=(n0,s2))(h2:stNum s2=(n1,s3))(h3:stNum s3=(n2,s4))(h4:stBytes s4=(dat,s5)):
 dWReq xs=if s5=some []/\m=[113]/\rqErr n0 n1 (n2:Int) dat.length=0 then(⟨n0,n1,(n2:Int),dat⟩,0) else(⟨0,0,0,[]⟩,3):=by
 have e3:stNums 3 s1=([(n0:Int),n1,n2],s4):=by simp only[stNums,h1,h2,h3]
 have hr:rd3 113 8192 xs=if m≠[113] then([],[],3) else if s5=some []/\dat.length<=8192 then([(n0:Int),n1,n2],dat,0) else([],[],3):=by
  rw[rd3,hf,if_neg (by simp)]
  simp only[h0,e3,h4]
 by_cases hm:m=[113]
 ·rw[if_neg (by rw[hm];simp)] at hr
  by_cases hc:s5=some []/\dat.length<=8192
  ·rw[if_pos hc] at hr
   by_cases ho:rqOk n0 n1 (n2:Int)=true
   ·rw[if_pos ⟨hc.1,hm,by rw[rqErr,if_neg (by rw[ho];simp),if_neg (by omega)]⟩,dWReq,hr,if_neg (by simp)]
    simp only[List.getD_cons_zero,List.getD_cons_succ]
    rw[if_pos ho]
   ·rw[if_neg,dWReq,hr,if_neg (by simp)]
    ·simp only[List.getD_cons_zero,List.getD_cons_succ]
     rw[if_neg ho]
    ·rintro⟨_,_,h⟩
     rw[rqErr,if_pos (by simpa using ho)] at h
     cases h
  ·rw[if_neg hc] at hr
   rw[if_neg,dWReq,hr,if_pos (by simp)]
   rintro⟨g1,_,h⟩
   rw[rqErr] at h
   split at h
   ·cases h
   ·split at h
    ·cases h
    ·exact hc ⟨g1,by omega⟩
 ·rw[if_pos hm] at hr
  rw[if_neg (fun h=>hm h.2.1),dWReq,hr,if_pos (by simp)]
theorem decReq_err(A:Option Addr)(n c:Nat)(xs:List Int)(er:Int)(w:World)(hn:xs.length=n)(hr:Rd w A (iv .u8 xs))(hc:n<=c)(hw:Wf xs)(hm:n<=140737488351232)(he:(fOne xs).2=er)(h0:er≠0):
 Calls Tryz.prog 12 #[.slice A n c] w (DWQ xs w):=by
 have HD:=As.mk (dWReq_err (xs:=xs) (er:=er) (by rw[rd3,if_pos (by rw[he];exact h0)];exact he) h0)
 have HQ1:=As.mk (rqr.Q4.new w (.int .i64 0) (.int .i64 0) (.int .i64 0) (.slice none 0 0))
 have HK1:=As.mk ((Kp.refl [] w).alloc (.cells #[.int .i64 0,.int .i64 0,.int .i64 0,.slice none 0 0] 40))
 have H1:As (∀wX,Kp [] w wX->Calls Tryz.prog 33 #[.slice A n c] wX fun e w'=>∃v,e= .returned (.tuple #[v,.int .i64 er])/\Kp [] wX w'):=⟨fun wX kX=>by
  refine(ref8.one_any A n c xs wX hn (kX.rd_new hr (by simp)) hc hw hm).mono ?_
  rintro e w' ⟨v,rfl,o,k⟩
  rw[he]
  exact⟨v,rfl,k⟩⟩
 have HO:=As.mk (H1.out _ HK1.out)
 have bne:(er==0)=false:=by simpa using h0
 have bne2:(er !=0)=true:=by simpa using h0
 clear hn hr hc hw hm he h0 H1
 go_enter Tryz.func12,Tryz.ntmps12
 go_wp2_with (go_at_call 33;refine HO.out.mono ?_;rintro e w2 ⟨v2,rfl,k2⟩;have HK2:=As.mk (HK1.out.trans k2 (by simp));have HQ2:=As.mk (HQ1.out.kp k2 (by simp));obtain⟨q0,q1,q2,q3⟩:=HQ2.out.cells;have f0:=HQ2.out.free 0;have f1:=HQ2.out.free 1;have f2:=HQ2.out.free 2;have f3:=HQ2.out.free 3;clear k2 HO)
 have hz:=HQ2.out.set (.int .i64 0) (.int .i64 0) (.int .i64 0) (.slice none 0 0)
 (try simp only[Exit.inBlock,Exit.then])
 refine bodyPost_ret (hz.1.res rfl rfl) rfl ?_
 exact⟨none,0,0,by rw[HD.out];rfl,by rw[HD.out];exact Own.nil _ _ _ _,HK2.out.trans hz.2 (by intro x hx;simp at hx;right;omega)⟩
theorem decReq_bad(A:Option Addr)(n c:Nat)(xs p dat m:List Int)(s1 s2 s3 s4 s5:Option (List Int))(n0 n1 n2:Nat)(w:World)(hn:xs.length=n)(hr:Rd w A (iv .u8 xs))(hc:n<=c)(hw:Wf xs)(hm:n<=140737488351232)
 (hf:fOne xs=(p,0)) (h0:stRaw 1 (some p)=(m,s1)) (h1:stNum s1=(n0,s2)) (h2:stNum s2=(n1,s3)) (h3:stNum s3=(n2,s4)) (h4:stBytes s4=(dat,s5)) (hs:refr.whole s5=false) (hn2:n2<=4611686018427387904):
 Calls Tryz.prog 12 #[.slice A n c] w (DWQ xs w):=by
 have HD:As (dWReq xs=(⟨0,0,0,[]⟩,3)):=⟨by rw[dWReq_cases hf h0 h1 h2 h3 h4,if_neg];rintro⟨h,_⟩;rw[h] at hs;simp[refr.whole] at hs⟩
 obtain⟨N,hN⟩:∃k,p.length=k:=⟨_,rfl⟩
 obtain⟨D,hD⟩:∃k,dat.length=k:=⟨_,rfl⟩
 obtain⟨x2,hx2⟩:∃x:Int,(n2:Int)=x:=⟨_,rfl⟩
 have hx9:0<=x2/\x2<=4611686018427387904:=by omega
 have hpw:Wf p:=by have:=fOne_wf hw;rwa[hf] at this
 have hps:p.length<=1100000:=by have:=fOne_small (b:=xs);rw[hf] at this;simp only at this;omega
 have hs1l:(left s1).length<=1100000:=by
  by_cases hp:1<=p.length
  ·rw[show(1:Int)=((1:Nat):Int) from rfl,refr.stRaw_good (s:=some p) (m:=1) (by simpa [left] using hp)] at h0
   cases h0
   simp[left];omega
  ·rw[refr.stRaw_bad (s:=some p) (.inr (by simp[left];omega))] at h0
   cases h0
   simp[left]
 have H1:As (∀wX,Kp [] w wX->Calls Tryz.prog 33 #[.slice A n c] wX fun e w'=>∃A2 c2,e= .returned (.tuple #[.slice A2 N c2,.int .i64 0])/\Own 5 .u8 w' wX.heap.size (.slice A2 N c2) p/\Kp [] wX w'):=⟨fun wX kX=>by
  refine(ref8.one_any A n c xs wX hn (kX.rd_new hr (by simp)) hc hw hm).mono ?_
  rintro e w' ⟨v,rfl,o,k⟩
  rw[hf] at o⊢
  obtain⟨A2,c2,rfl,_⟩:=own_rd o.1
  rw[hN] at o⊢
  exact⟨A2,c2,rfl,o,k⟩⟩
 have HK1:=As.mk ((Kp.refl [] w).alloc (.cells #[.int .i64 0,.int .i64 0,.int .i64 0,.slice none 0 0] 40))
 have HO:=As.mk (H1.out _ HK1.out)
 have HBX:As (∀w2 A2 c2 lo,Own 5 .u8 w2 lo (.slice A2 N c2) p->Kp [] (w.alloc (.cells #[.int .i64 0,.int .i64 0,.int .i64 0,.slice none 0 0] 40)) w2->FD (.cells #[.int .i64 0,.int .i64 0,.int .i64 0,.slice none 0 0] 40) w (w2.alloc (.cells #[.slice A2 N c2,.bool false] 106)) w2.heap.size (some p)):=⟨fun w2 A2 c2 lo o k=>FD.box rfl k o hpw hps ⟨_,_,rfl⟩ rfl⟩
 have HRA:As (∀wX X,FD (.cells #[.int .i64 0,.int .i64 0,.int .i64 0,.slice none 0 0] 40) w wX X (some p)->_):=⟨fun wX X h=>h.raw h0 hs1l⟩
 have HN1:As (∀wX X,FD (.cells #[.int .i64 0,.int .i64 0,.int .i64 0,.slice none 0 0] 40) w wX X s1->_):=⟨fun wX X h=>h.num h1⟩
 have HN2:As (∀wX X,FD (.cells #[.int .i64 0,.int .i64 0,.int .i64 0,.slice none 0 0] 40) w wX X s2->_):=⟨fun wX X h=>h.num h2⟩
 have HN3:As (∀wX X,FD (.cells #[.int .i64 0,.int .i64 0,.int .i64 0,.slice none 0 0] 40) w wX X s3->_):=⟨fun wX X h=>h.num h3⟩
 have HBY:As (∀wX X,FD (.cells #[.int .i64 0,.int .i64 0,.int .i64 0,.slice none 0 0] 40) w wX X s4->_):=⟨fun wX X h=>h.bytes h4 hD⟩
 have HWH:As (∀wX X,FD (.cells #[.int .i64 0,.int .i64 0,.int .i64 0,.slice none 0 0] 40) w wX X s5->Calls Tryz.prog 37 #[.pointer (some ⟨X,0,none⟩)] wX fun e w5=>e= .returned (.bool false)/\As (FD (.cells #[.int .i64 0,.int .i64 0,.int .i64 0,.slice none 0 0] 40) w w5 X s5)):=⟨fun wX X h=>by
  refine h.whole.mono ?_
  rw[hs]
  rintro e w5 ⟨rfl,rfl⟩
  exact⟨rfl,⟨h⟩⟩⟩
 rw[hx2] at HN3
 clear hn hr hc hw hm hf h0 h1 h2 h3 h4 hs hn2 hN hD hx2 hpw hps hs1l H1
 go_enter Tryz.func12,Tryz.ntmps12
 go_wp2_with (first
  |(go_at_call 33;refine HO.out.mono ?_;rintro e w2 ⟨A2,c2,rfl,o2,k2⟩;have HF2:=As.mk (HBX.out w2 A2 c2 _ o2 k2);have HC2:=As.mk (HRA.out _ _ HF2.out);clear o2 k2 HO HBX HRA)
  |(go_at_call 34;refine HC2.out.mono ?_;rintro e w3 ⟨v3,rfl,h3,o3,k3⟩;have HC3:=As.mk (HN1.out _ _ h3);clear h3 o3 k3 HC2 HN1)
  |(go_at_call 35;refine HC3.out.mono ?_;rintro e w4 ⟨rfl,h4,k4⟩;have HC4:=As.mk (HN2.out _ _ h4);clear h4 k4 HC3 HN2)
  |(go_at_call 35;refine HC4.out.mono ?_;rintro e w5 ⟨rfl,h5,k5⟩;have HC5:=As.mk (HN3.out _ _ h5);clear h5 k5 HC4 HN3)
  |(go_at_call 35;refine HC5.out.mono ?_;rintro e w6 ⟨rfl,h6,k6⟩;have HC6:=As.mk (HBY.out _ _ h6);clear h6 k6 HC5 HBY)
  |(go_at_call 36;refine HC6.out.mono ?_;rintro e w7 ⟨A7,c7,rfl,H7⟩;have HF7:As (∀o,FD (.cells #[.int .i64 0,.int .i64 0,.int .i64 0,.slice none 0 0] 40) w (w7.alloc o) w2.heap.size s5):=⟨fun o=>H7.out.1.skip o rfl⟩;clear HC6)
  |(go_at_call 37;refine(HWH.out _ _ (HF7.out _)).mono ?_;rintro e w8 ⟨rfl,HF8⟩;have HQ8:As (rqr.Q4 w8 w.heap.size (.int .i64 0) (.int .i64 0) (.int .i64 0) (.slice none 0 0)):=⟨HF8.out.res⟩;have HK8:=As.mk HF8.out.kp;obtain⟨q0,q1,q2,q3⟩:=HQ8.out.cells;have f0:=HQ8.out.free 0;have f1:=HQ8.out.free 1;have f2:=HQ8.out.free 2;have f3:=HQ8.out.free 3;clear HWH))
 have hz:=HQ8.out.set (.int .i64 0) (.int .i64 0) (.int .i64 0) (.slice none 0 0)
 (try simp only[Exit.inBlock,Exit.then])
 refine bodyPost_ret (hz.1.res rfl rfl) rfl ?_
 exact⟨none,0,0,by rw[HD.out];rfl,by rw[HD.out];exact Own.nil _ _ _ _,HK8.out.trans hz.2 (by intro x hx;simp at hx;right;omega)⟩
theorem decReq_good(A:Option Addr)(n c:Nat)(xs dat r:List Int)(mk:Int)(s2 s3 s4:Option (List Int))(n0 n1 n2:Nat)(w:World)(hn:xs.length=n)(hr:Rd w A (iv .u8 xs))(hc:n<=c)(hw:Wf xs)(hm:n<=140737488351232)
 (hf:fOne xs=(mk::r,0)) (h1:stNum (some r)=(n0,s2)) (h2:stNum s2=(n1,s3)) (h3:stNum s3=(n2,s4)) (h4:stBytes s4=(dat,some [])) (hn2:n2<=4611686018427387904):
 Calls Tryz.prog 12 #[.slice A n c] w (DWQ xs w):=by
 have hpw:Wf (mk::r):=by have:=fOne_wf hw;rwa[hf] at this
 have hps:(mk::r).length<=1100000:=by have:=fOne_small (b:=xs);rw[hf] at this;simp only at this;omega
 have h0:stRaw 1 (some (mk::r))=([mk],some r):=by
  rw[O.stRaw]
  rw[if_neg (by simp only[List.length_cons];omega)]
  rfl
 have hs1l:(left (some r)).length<=1100000:=by simp only[List.length_cons] at hps;simp[left];omega
 obtain⟨N,hN⟩:∃k,(mk::r).length=k:=⟨_,rfl⟩
 obtain⟨D,hD⟩:∃k,dat.length=k:=⟨_,rfl⟩
 obtain⟨x2,hx2⟩:∃x:Int,(n2:Int)=x:=⟨_,rfl⟩
 have hx9:0<=x2/\x2<=4611686018427387904:=by omega
 obtain⟨er,her⟩:∃x:Int,rqErr n0 n1 x2 D=x:=⟨_,rfl⟩
 have hDW:dWReq xs=if mk=113/\er=0 then(⟨n0,n1,x2,dat⟩,0) else(⟨0,0,0,[]⟩,3):=by
  rw[dWReq_cases hf h0 h1 h2 h3 h4,hx2,hD,her]
  by_cases hq:mk=113/\er=0
  ·rw[if_pos ⟨rfl,by rw[hq.1],hq.2⟩,if_pos hq]
  ·rw[if_neg (fun h=>hq ⟨by simpa using h.2.1,h.2.2⟩),if_neg hq]
 have HDW:=As.mk hDW
 have HMY:As (∀v wX,v= .slice none 0 0\/(∃A c,v= .slice A D c)->Calls Tryz.prog 38 #[.agg #[.int .i64 n0,.int .i64 n1,.int .i64 x2,v]] wX fun e w'=>(∃A c,v= .slice A D c)->e= .returned (.int .i64 er)/\Kp [] wX w'):=⟨fun v wX hv=>by
  rcases hv with rfl|⟨A,c,rfl⟩
  ·exact(rmay_any n0 n1 x2 none 0 0 wX).mono (fun e w' h hv=>by
    obtain⟨A,c,hv⟩:=hv
    cases hv
    rw[her] at h
    exact h)
  ·refine(rmay_any n0 n1 x2 A D c wX).mono ?_
   rw[her]
   exact fun e w' h _=>h⟩
 have HMY2:As (∀A c wX,Calls Tryz.prog 38 #[.agg #[.int .i64 n0,.int .i64 n1,.int .i64 x2,.slice A D c]] wX fun e w'=>e= .returned (.int .i64 er)/\Kp [] wX w'):=⟨fun A c wX=>(HMY.out _ wX (.inr ⟨A,c,rfl⟩)).mono (fun e w' h=>h ⟨A,c,rfl⟩)⟩
 have H1:As (∀wX,Kp [] w wX->Calls Tryz.prog 33 #[.slice A n c] wX fun e w'=>∃A2 c2,e= .returned (.tuple #[.slice A2 N c2,.int .i64 0])/\Own 5 .u8 w' wX.heap.size (.slice A2 N c2) (mk::r)/\Kp [] wX w'):=⟨fun wX kX=>by
  refine(ref8.one_any A n c xs wX hn (kX.rd_new hr (by simp)) hc hw hm).mono ?_
  rintro e w' ⟨v,rfl,o,k⟩
  rw[hf] at o⊢
  obtain⟨A2,c2,rfl,_⟩:=own_rd o.1
  rw[hN] at o⊢
  exact⟨A2,c2,rfl,o,k⟩⟩
 have HK1:=As.mk ((Kp.refl [] w).alloc (.cells #[.int .i64 0,.int .i64 0,.int .i64 0,.slice none 0 0] 40))
 have HO:=As.mk (H1.out _ HK1.out)
 have HBX:As (∀w2 A2 c2 lo,Own 5 .u8 w2 lo (.slice A2 N c2) (mk::r)->Kp [] (w.alloc (.cells #[.int .i64 0,.int .i64 0,.int .i64 0,.slice none 0 0] 40)) w2->FD (.cells #[.int .i64 0,.int .i64 0,.int .i64 0,.slice none 0 0] 40) w (w2.alloc (.cells #[.slice A2 N c2,.bool false] 106)) w2.heap.size (some (mk::r))):=⟨fun w2 A2 c2 lo o k=>FD.box rfl k o hpw hps ⟨_,_,rfl⟩ rfl⟩
 have HRA:As (∀wX X,FD (.cells #[.int .i64 0,.int .i64 0,.int .i64 0,.slice none 0 0] 40) w wX X (some (mk::r))->Calls Tryz.prog 34 #[.pointer (some ⟨X,0,none⟩),.int .i64 1] wX fun e w5=>∃gv c3,e= .returned (.slice (some ⟨gv,0,none⟩) 1 c3)/\FD (.cells #[.int .i64 0,.int .i64 0,.int .i64 0,.slice none 0 0] 40) w w5 X (some r)/\As (X<gv/\w5.cell? ⟨gv,0,none⟩=some (.int .u8 mk))):=⟨fun wX X h=>by
  have hX:X<wX.heap.size:=by obtain⟨g,R⟩:=h.rdr;exact R.lt
  refine(h.raw h0 hs1l).mono ?_
  rintro e w5 ⟨v,rfl,hF,o,k⟩
  have hlo:=o.2
  obtain⟨gv,cp,rfl,_⟩:=own_form o.1 (by simp)
  refine⟨gv,cp,rfl,hF,⟨?_, ?_⟩⟩
  ·have:=hlo gv rfl
   omega
  ·have:=o.1.cellAt 0 (by simp)
   rw[show(iv .u8 [mk])[0]?=some (.int .u8 mk) from rfl] at this
   simpa using this⟩
 have HN1:As (∀wX X,FD (.cells #[.int .i64 0,.int .i64 0,.int .i64 0,.slice none 0 0] 40) w wX X (some r)->_):=⟨fun wX X h=>h.num h1⟩
 have HN2:As (∀wX X,FD (.cells #[.int .i64 0,.int .i64 0,.int .i64 0,.slice none 0 0] 40) w wX X s2->_):=⟨fun wX X h=>h.num h2⟩
 have HN3:As (∀wX X,FD (.cells #[.int .i64 0,.int .i64 0,.int .i64 0,.slice none 0 0] 40) w wX X s3->_):=⟨fun wX X h=>h.num h3⟩
 have HBY:As (∀wX X,FD (.cells #[.int .i64 0,.int .i64 0,.int .i64 0,.slice none 0 0] 40) w wX X s4->_):=⟨fun wX X h=>h.bytes h4 hD⟩
 have HWH:As (∀wX X,FD (.cells #[.int .i64 0,.int .i64 0,.int .i64 0,.slice none 0 0] 40) w wX X (some [])->Calls Tryz.prog 37 #[.pointer (some ⟨X,0,none⟩)] wX fun e w5=>e= .returned (.bool true)/\w5=wX):=⟨fun wX X h=>by
  refine h.whole.mono ?_
  rintro e w5 ⟨rfl,rfl⟩
  exact⟨rfl,rfl⟩⟩
 rw[hx2] at HN3
 clear hn hr hc hw hm hf h0 h1 h2 h3 h4 hn2 hN hD hx2 hpw hps hs1l H1 her HMY hDW
 have D3:(mk !=113)=true\/(mk=113/\(er !=0)=true)\/(mk=113/\er=0):=by
  by_cases a:mk=113
  ·by_cases b:er=0
   ·exact .inr (.inr ⟨a,b⟩)
   ·exact .inr (.inl ⟨a,by simpa using b⟩)
  ·exact .inl (by simpa using a)
 rcases D3 with d1|⟨rfl,d2⟩|⟨rfl,rfl⟩
 all_goals
  go_enter Tryz.func12,Tryz.ntmps12
  go_wp2_with (first
   |(go_at_call 33;refine HO.out.mono ?_;rintro e w2 ⟨A2,c2,rfl,o2,k2⟩;have HF2:=As.mk (HBX.out w2 A2 c2 _ o2 k2);have HC2:=As.mk (HRA.out _ _ HF2.out);clear o2 k2 HO HBX HRA)
   |(go_at_call 34;refine HC2.out.mono ?_;rintro e w3 ⟨gv,c3,rfl,h3,HM3⟩;have HC3:=As.mk (HN1.out _ _ h3);clear h3 HC2 HN1)
   |(go_at_call 35;refine HC3.out.mono ?_;rintro e w4 ⟨rfl,h4,k4⟩;have HM4:=As.mk (k4.cell HM3.out.2 (by have:=HM3.out.1;simp;omega));have HC4:=As.mk (HN2.out _ _ h4);clear h4 k4 HC3 HN2)
   |(go_at_call 35;refine HC4.out.mono ?_;rintro e w5 ⟨rfl,h5,k5⟩;have HM5:=As.mk (k5.cell HM4.out (by have:=HM3.out.1;simp;omega));have HC5:=As.mk (HN3.out _ _ h5);clear h5 k5 HC4 HN3)
   |(go_at_call 35;refine HC5.out.mono ?_;rintro e w6 ⟨rfl,h6,k6⟩;have HM6:=As.mk (k6.cell HM5.out (by have:=HM3.out.1;simp;omega));have HC6:=As.mk (HBY.out _ _ h6);clear h6 k6 HC5 HBY)
   |(go_at_call 36;refine HC6.out.mono ?_;rintro e w7 ⟨A7,c7,rfl,H7⟩;have m7:=H7.out.2.2.cell HM6.out (by have:=HM3.out.1;simp;omega);have m8:=((Kp.refl [] w7).alloc (.cells #[.int .i64 n0,.int .i64 n1,.int .i64 x2,.slice A7 D c7] 40)).cell m7 (by simp);have HF7:=As.mk (H7.out.1.skip (.cells #[.int .i64 n0,.int .i64 n1,.int .i64 x2,.slice A7 D c7] 40) rfl);have HWX:=As.mk (HWH.out _ _ HF7.out);have HQ7:As (rqr.Q4 (w7.alloc (.cells #[.int .i64 n0,.int .i64 n1,.int .i64 x2,.slice A7 D c7] 40)) w.heap.size (.int .i64 0) (.int .i64 0) (.int .i64 0) (.slice none 0 0)):=⟨HF7.out.res⟩;obtain⟨t0,t1,t2,t3⟩:=(rqr.Q4.new w7 (.int .i64 n0) (.int .i64 n1) (.int .i64 x2) (.slice A7 D c7)).cells;obtain⟨q0,q1,q2,q3⟩:=HQ7.out.cells;have f0:=HQ7.out.free 0;have f1:=HQ7.out.free 1;have f2:=HQ7.out.free 2;have f3:=HQ7.out.free 3;clear HC6 m7 HWH)
   |(go_at_call 37;refine HWX.out.mono ?_;rintro e w8 ⟨rfl,rfl⟩;clear HWX)
   |(go_at_call 38;refine(HMY2.out _ _ _).mono ?_;rintro e w9 ⟨rfl,k9⟩;have HK9:=As.mk (HF7.out.kp.trans k9 (by simp));have HQ9:=As.mk (HQ7.out.kp k9 (by simp));have HO9:=As.mk (H7.out.2.1.kp (((Kp.refl [] w7).alloc (.cells #[.int .i64 n0,.int .i64 n1,.int .i64 x2,.slice A7 D c7] 40)).trans k9 (by simp)) (by simp));obtain⟨u0,u1,u2,u3⟩:=((rqr.Q4.new w7 (.int .i64 n0) (.int .i64 n1) (.int .i64 x2) (.slice A7 D c7)).kp k9 (by simp)).cells;obtain⟨v0,v1,v2,v3⟩:=HQ9.out.cells;have g0:=HQ9.out.free 0;have g1:=HQ9.out.free 1;have g2:=HQ9.out.free 2;have g3:=HQ9.out.free 3;clear k9 HMY2))
 ·have hz:=HQ7.out.set (.int .i64 0) (.int .i64 0) (.int .i64 0) (.slice none 0 0)
  have hd:dWReq xs=(⟨0,0,0,[]⟩,3):=by rw[HDW.out,if_neg (fun h=>by rw[h.1] at d1;simp at d1)]
  (try simp only[Exit.inBlock,Exit.then])
  refine bodyPost_ret (hz.1.res rfl rfl) rfl ?_
  exact⟨none,0,0,by rw[hd];rfl,by rw[hd];exact Own.nil _ _ _ _,HF7.out.kp.trans hz.2 (by intro x hx;simp at hx;right;omega)⟩
 ·have hz:=HQ9.out.set (.int .i64 0) (.int .i64 0) (.int .i64 0) (.slice none 0 0)
  have hd:dWReq xs=(⟨0,0,0,[]⟩,3):=by rw[HDW.out,if_neg (fun h=>by rw[h.2] at d2;simp at d2)]
  (try simp only[Exit.inBlock,Exit.then])
  refine bodyPost_ret (hz.1.res rfl rfl) rfl ?_
  exact⟨none,0,0,by rw[hd];rfl,by rw[hd];exact Own.nil _ _ _ _,HK9.out.trans hz.2 (by intro x hx;simp at hx;right;omega)⟩
 ·have hz:=HQ9.out.set (.int .i64 n0) (.int .i64 n1) (.int .i64 x2) (.slice A7 D c7)
  have hd:dWReq xs=(⟨n0,n1,x2,dat⟩,0):=by rw[HDW.out];simp
  (try simp only[Exit.inBlock,Exit.then])
  refine bodyPost_ret (hz.1.res rfl rfl) rfl ?_
  refine⟨A7,D,c7,by rw[hd];rfl, ?_,HK9.out.trans hz.2 (by intro x hx;simp at hx;right;omega)⟩
  rw[hd]
  exact(HO9.out.kp hz.2 (fun g hg=>by have:=HO9.out.2 g hg;simp;omega)).lower (by omega)
theorem decReq_any(A:Option Addr)(n c:Nat)(xs:List Int)(w:World)(hn:xs.length=n)(hr:Rd w A (iv .u8 xs))(hc:n<=c)(hw:Wf xs)(hm:n<=140737488351232):
 Calls Tryz.prog 12 #[.slice A n c] w (DWQ xs w):=by
 by_cases h0:(fOne xs).2=0
 ·obtain⟨p,hp⟩:∃p,(fOne xs).1=p:=⟨_,rfl⟩
  have hf:fOne xs=(p,0):=Prod.ext hp h0
  obtain⟨m,s1,e0⟩:∃a b,stRaw 1 (some p)=(a,b):=⟨_,_,rfl⟩
  obtain⟨n0,s2,e1⟩:∃a b,stNum s1=(a,b):=⟨_,_,rfl⟩
  obtain⟨n1,s3,e2⟩:∃a b,stNum s2=(a,b):=⟨_,_,rfl⟩
  obtain⟨n2,s4,e3⟩:∃a b,stNum s3=(a,b):=⟨_,_,rfl⟩
  obtain⟨dat,s5,e4⟩:∃a b,stBytes s4=(a,b):=⟨_,_,rfl⟩
  have hn2:n2<=4611686018427387904:=by have:=stNum_bd s3;rw[e3] at this;exact this
  by_cases h5:s5=some []
  ·subst h5
   cases p with
   |nil=>
    have:stRaw 1 (some [])=([],none):=rfl
    rw[this] at e0
    cases e0
    have:stNum none=(0,none):=rfl
    rw[this] at e1;cases e1
    rw[this] at e2;cases e2
    rw[this] at e3;cases e3
    cases e4
   |cons mk r=>
    have:stRaw 1 (some (mk::r))=([mk],some r):=by
     rw[O.stRaw]
     rw[if_neg (by simp only[List.length_cons];omega)]
     rfl
    rw[this] at e0
    cases e0
    exact decReq_good A n c xs dat r mk s2 s3 s4 n0 n1 n2 w hn hr hc hw hm hf e1 e2 e3 e4 hn2
  ·exact decReq_bad A n c xs p dat m s1 s2 s3 s4 s5 n0 n1 n2 w hn hr hc hw hm hf e0 e1 e2 e3 e4 (by rw[Bool.eq_false_iff];intro h;exact h5 (by simpa [refr.whole] using h)) hn2
 ·exact decReq_err A n c xs _ w hn hr hc hw hm rfl h0
theorem encReq_ok(k c s:Int)(A:Option Addr)(n cp:Nat)(xs:List Int)(w:World)(hn:xs.length=n)(hr:Rd w A (iv .u8 xs))(hnil:A=none->cp=0)(hw:Wf xs)(hn9:n<=8192)(hk:1<=k/\k<=4)(hc:0<=c/\c<=1099511627776)(hs:0<=s/\s<=255)(N:Nat)(hN:N=(pay 113 [k,c,s] xs).length+12):
 Calls Tryz.prog 122 #[.agg #[.int .i64 k,.int .i64 c,.int .i64 s,.slice A n cp]] w fun e w'=>∃A1 c1,e= .returned (.tuple #[.slice A1 N c1,.int .i64 0])/\Acc w w' (.slice A1 N c1) N (fEnc (pay 113 [k,c,s] xs))/\N<=c1:=by
 obtain⟨X1,hX1⟩:∃X,X=nums [k,c,s]:=⟨_,rfl⟩
 obtain⟨R1,hR1⟩:∃R,X1.length=R:=⟨_,rfl⟩
 obtain⟨T1,hT1⟩:∃T,T=1+R1:=⟨_,rfl⟩
 obtain⟨Y2,hY2⟩:∃Y,Y=row xs:=⟨_,rfl⟩
 obtain⟨R2,hR2⟩:∃R,Y2.length=R:=⟨_,rfl⟩
 obtain⟨T2,hT2⟩:∃T,T=T1+R2:=⟨_,rfl⟩
 obtain⟨P,hP⟩:∃P,pay 113 [k,c,s] xs=P:=⟨_,rfl⟩
 rw[hP] at hN⊢
 have hl1:R1<=100:=by have:=pay_len 114 [k,c,s] [] (by simp);rw[pay] at this;rw[<-hR1,hX1];simp only[List.length_append,List.length_nil,List.length_cons] at this;omega
 have hl2:R2<=600000:=by have:=haystacklaw13.row_len xs;rw[<-hR2,hY2];omega
 have hPe:[113]++X1++Y2=P:=by rw[<-hP,hX1,hY2,pay];rfl
 have hPL:P.length=T2:=by rw[<-hPe,List.length_append,List.length_append,hR1,hR2,hT2,hT1];rfl
 have hPW:Wf P:=by rw[<-hP];exact pay_wf (by omega) hw
 have HPE:=As.mk hPe
 have hNT:N=T2+12:=by omega
 have HMY:As (∀wX,Calls Tryz.prog 38 #[.agg #[.int .i64 k,.int .i64 c,.int .i64 s,.slice A n cp]] wX fun e w'=>e= .returned (.int .i64 0)/\Kp [] wX w'):=⟨fun wX=>by
  have:=rmay_any k c s A n cp wX
  rwa[show rqErr k c s n=0 by rw[rqErr,if_neg (by rw[rqOk_iff.2 ⟨hk,hc,hs⟩];simp),if_neg (by omega)]] at this⟩
 have HK1:=As.mk ((Kp.refl [] w).alloc (.cells #[.int .i64 k,.int .i64 c,.int .i64 s,.slice A n cp] 40))
 have HQ1:=As.mk (rqr.Q4.new w (.int .i64 k) (.int .i64 c) (.int .i64 s) (.slice A n cp))
 have HNU:As (∀wX b,b=wX.heap.size->Calls Tryz.prog 41 #[.slice (some ⟨b,0,none⟩) 3 3] (wX.alloc (.cells #[.int .i64 k,.int .i64 c,.int .i64 s] 3)) fun e w'=>∃A3 c3,e= .returned (.slice A3 R1 c3)/\Rd w' A3 (iv .u8 X1)/\(A3=none->c3=0)/\Kp [] wX w'):=⟨fun wX b hb=>by
  subst hb
  refine(ref.nums_any (some ⟨wX.heap.size,0,none⟩) 3 3 [k,c,s] _ rfl (rd_new wX (iv .i64 [k,c,s]) 3) (by decide)).mono ?_
  rintro e w' ⟨v,rfl,o,kk⟩
  rw[<-hX1] at o
  obtain⟨A3,c3,rfl,_,_,r3,n3⟩:=own_rd o.1
  rw[hR1]
  exact⟨A3,c3,rfl,r3,n3,((Kp.refl [] wX).alloc _).trans kk (by simp)⟩⟩
 have HBY:As (∀(wX:World),Kp [] w wX->Calls Tryz.prog 43 #[.slice A n cp] wX fun e w'=>∃A5 c5,e= .returned (.slice A5 R2 c5)/\Rd w' A5 (iv .u8 Y2)/\(A5=none->c5=0)/\Kp [] wX w'):=⟨fun wX kX=>by
  refine(ref.bytes_any A n cp xs wX hn (kX.rd_new hr (by simp)) hnil (by omega)).mono ?_
  rintro e w' ⟨v,rfl,o,kk⟩
  rw[<-hY2] at o
  obtain⟨A5,c5,rfl,_,_,r5,n5⟩:=own_rd o.1
  rw[hR2]
  exact⟨A5,c5,rfl,r5,n5,kk⟩⟩
 have hT9:T2<=700000:=by omega
 have hT8:T1<=200:=by omega
 have HEN:As (∀wX A6 c6,Acc w wX (.slice A6 T2 c6) T2 P->Calls Tryz.prog 42 #[.slice A6 T2 c6] wX fun e w'=>∃A1 c1,e= .returned (.tuple #[.slice A1 N c1,.int .i64 0])/\As (Acc w w' (.slice A1 N c1) N (fEnc P)/\N<=c1)):=⟨fun wX A6 c6 h=>by
  obtain⟨A7,c7,e7,_,_,r7,n7⟩:=own_rd h.own
  cases e7
  refine(ref8.enc_any A6 T2 c6 P wX hPL r7 n7 hPW (by omega) N hNT).mono ?_
  rintro e w' ⟨A1,c1,rfl,a,hc1⟩
  exact⟨A1,c1,rfl,⟨⟨a.own,fun g hg=>Nat.le_trans h.kp.size (a.lo g hg),h.kp.trans a.kp (by simp)⟩,hc1⟩⟩⟩
 have HR1:=As.mk hR1
 have HR2:=As.mk hR2
 have HT1:=As.mk hT1
 have HT2:=As.mk hT2
 clear hr hn hnil hw hX1 hR1 hT1 hY2 hR2 hT2 hP hPe hPL hPW hN hNT
 go_enter Tryz.func122,Tryz.ntmps122
 go_wp2_with (first
  |(go_at_call 38;refine(HMY.out _).mono ?_;rintro e w2 ⟨rfl,k2⟩;have HK2:As (Kp [] w w2):=⟨HK1.out.trans k2 (by simp)⟩;have HQ2:=As.mk (HQ1.out.kp k2 (by simp));have HS2:As (w.heap.size<w2.heap.size):=⟨lt_of_block HQ2.out⟩;obtain⟨x0,x1,x2,x3⟩:=(HQ2.out.kp ((Kp.refl [] w2).alloc (.cells #[.int .u8 113] 5)) (by simp)).cells;clear k2 HMY)
  |(go_at_call 41;refine(HNU.out _ _ (by simp)).mono ?_;rintro e w3 ⟨A3,c3,rfl,r3,n3,k3⟩;have HR3:=As.mk r3;have HN3:=As.mk n3;have HA3:As (Acc w w3 (.slice (some ⟨w2.heap.size,0,none⟩) 1 1) 1 [113]):=⟨Acc.keep ⟨own_new w2 [.int .u8 113] _ (by decide),by have:=HK2.out.size;intro g hg;simp[Value.ownBlock] at hg;omega,HK2.out.alloc _⟩ k3⟩;have HQ3:=As.mk ((HQ2.out.kp ((Kp.refl [] w2).alloc (.cells #[.int .u8 113] 5)) (by simp)).kp k3 (by simp));clear r3 n3 k3 HNU x0 x1 x2 x3)
  |(at_builtin;refine clone.app8 rfl (.tmp 11) (.tmp 19) rfl (.slice (some ⟨w2.heap.size,0,none⟩) 1 1) 1 (iv .u8 [113]) rfl HA3.out.own A3 R1 c3 (iv .u8 X1) rfl (by rw[iv_len,HR1.out]) HR3.out HN3.out (iv_one _ _) (by omega) ?_;intro v4 w4 o4 k4 a4;have h4:=HA3.out.more o4 k4 a4 HT1.out;obtain⟨A4,c4,rfl,_,_,_,_⟩:=own_rd h4.own;have HA4:=As.mk h4;have HB4:=As.mk (HBY.out w4 h4.kp);obtain⟨y0,y1,y2,y3⟩:=(HQ3.out.kp k4 (by have:=HS2.out;simp[Value.ownBlock];omega)).cells;clear o4 k4 a4 h4 HBY HA3)
  |(go_at_call 43;refine HB4.out.mono ?_;rintro e w5 ⟨A5,c5,rfl,r5,n5,k5⟩;have HR5:=As.mk r5;have HN5:=As.mk n5;have HA5:=As.mk (HA4.out.keep k5);clear r5 n5 k5 HB4 HA4)
  |(at_builtin;refine clone.app8 rfl (.tmp 21) (.tmp 24) rfl (.slice A4 T1 c4) T1 (iv .u8 ([113]++X1)) rfl HA5.out.own A5 R2 c5 (iv .u8 Y2) rfl (by rw[iv_len,HR2.out]) HR5.out HN5.out (iv_one _ _) (by omega) ?_;intro v6 w6 o6 k6 a6;have h6:=HA5.out.more o6 k6 a6 HT2.out;rw[HPE.out] at h6;obtain⟨A6,c6,rfl,_,_,_,_⟩:=own_rd h6.own;have HE6:=As.mk (HEN.out w6 A6 c6 h6);clear o6 k6 a6 h6 HEN HA5)
  |(go_at_call 42;refine HE6.out.mono ?_;rintro e w7 ⟨A7,c7,rfl,HF7⟩;clear HE6))
 go_ret2
 exact⟨_,_,rfl,HF7.out.1,HF7.out.2⟩
theorem encReply_err(k c s:Int)(A:Option Addr)(n cp:Nat)(w:World)(e:Int)(he:rpErr k c s n=e)(h0:e≠0):
 Calls Tryz.prog 15 #[.agg #[.int .i64 k,.int .i64 c,.int .i64 s,.slice A n cp]] w fun x w'=>x= .returned (.tuple #[.slice none 0 0,.int .i64 e])/\Kp [] w w':=by
 have HMY:As (∀wX,Calls Tryz.prog 40 #[.agg #[.int .i64 k,.int .i64 c,.int .i64 s,.slice A n cp]] wX fun x w'=>x= .returned (.int .i64 e)/\Kp [] wX w'):=⟨fun wX=>by
  have:=may_any k c s A n cp wX
  rwa[he] at this⟩
 have HK1:=As.mk ((Kp.refl [] w).alloc (.cells #[.int .i64 k,.int .i64 c,.int .i64 s,.slice A n cp] 55))
 have HQ1:=As.mk (rpr.Q4.new w (.int .i64 k) (.int .i64 c) (.int .i64 s) (.slice A n cp))
 clear he
 go_enter Tryz.func15,Tryz.ntmps15
 go_wp2_with (go_at_call 40;refine(HMY.out _).mono ?_;rintro x w2 ⟨rfl,k2⟩;have HK2:As (Kp [] w w2):=⟨HK1.out.trans k2 (by simp)⟩;clear k2 HMY)
 go_ret2
 exact⟨rfl,HK2.out⟩
end Go.Proofs.YtdiljpdohmeceaaGreat.ref22
