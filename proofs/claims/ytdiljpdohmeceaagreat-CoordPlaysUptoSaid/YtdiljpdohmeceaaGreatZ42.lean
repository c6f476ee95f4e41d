/- Words and walks that this claim rests on: proved lemmas alone. -/
import Derived.Test.YtdiljpdohmeceaaGreatZ36
set_option maxHeartbeats 16000000
set_option maxRecDepth 100000
namespace Go.Proofs.YtdiljpdohmeceaaGreat.co
open Go.RowKit H O opk frame wir
def DatC(w:World)(r:List Int)(e:Ending)(w':World):Prop:=∃A n c,e= .returned (.slice A n c)/\As (Rd w' A (iv .u8 r)/\(A=none->c=0)/\r.length=n/\Kp [] w w')
theorem DatC.of{w:World}{r:List Int}{e:Ending}{w':World}(h:RetOwn 5 .u8 w r e w'):DatC w r e w':=by
 obtain⟨v,rfl,o,k⟩:=h
 obtain⟨A,c,rfl,_,_,rr,hn⟩:=own_rd o.1
 exact⟨A,_,c,rfl,⟨rr,hn,rfl,k⟩⟩
theorem data_else(w:World)(kd an er hi wh fr:Int)(key:ByteArray)(A:Option Addr)(n c:Nat)(xs:List Int)(MV:Value)(hn:xs.length=n)(hr:Rd w A (iv .u8 xs))(hnil:A=none->c=0)(hwh:wh<1\/4<wh):
 Calls Tryz.prog 67 #[.agg #[.int .i64 kd,.int .i64 an,.int .i64 er,.int .i64 hi,.int .i64 wh,.int .i64 fr,.string key,.slice A n c,MV]] w (DatC w xs):=by
 obtain⟨W,hW⟩:∃W,w.alloc (actObj kd an er hi wh fr key (.slice A n c) MV)=W:=⟨_,rfl⟩
 have kW:Kp [] w W:=by rw[<-hW];exact(Kp.refl [] w).alloc _
 have hb:W.heap[w.heap.size]?=some (actObj kd an er hi wh fr key (.slice A n c) MV):=by rw[<-hW];exact heap_alloc_new w _
 have a4:=bkc hb 4 rfl
 have a7:W.cell? ⟨w.heap.size,7,none⟩=some (.slice A n c):=bkc hb 7 rfl
 have HR:As (Rd W A (iv .u8 xs)/\(A=none->c=0)/\xs.length=n/\Kp [] w W):=⟨kW.rd_new hr (by simp),hnil,hn,kW⟩
 have n1:¬wh=1:=by omega
 have n2:¬wh=2:=by omega
 have n3:¬wh=3:=by omega
 have n4:¬wh=4:=by omega
 clear hb hn hr kW hnil hwh
 unfold actObj at hW
 go_enter Tryz.func67,Tryz.ntmps67
 go_wp2_with fail
 go_ret
 exact⟨A,n,c,rfl,by first|exact HR|(rw[hW];exact HR)⟩
theorem data_three(w:World)(kd an er hi fr:Int)(key:ByteArray)(BV MV:Value):
 Calls Tryz.prog 67 #[.agg #[.int .i64 kd,.int .i64 an,.int .i64 er,.int .i64 hi,.int .i64 3,.int .i64 fr,.string key,BV,MV]] w (RetOwn 5 .u8 w (num 0)):=by
 obtain⟨W,hW⟩:∃W,w.alloc (actObj kd an er hi 3 fr key BV MV)=W:=⟨_,rfl⟩
 have kW:Kp [] w W:=by rw[<-hW];exact(Kp.refl [] w).alloc _
 have hb:W.heap[w.heap.size]?=some (actObj kd an er hi 3 fr key BV MV):=by rw[<-hW];exact heap_alloc_new w _
 have a4:=bkc hb 4 rfl
 have HM:As (Calls Tryz.prog 80 #[.int .i64 0] W fun e w'=>∃A1 n1 c1,e= .returned (.slice A1 n1 c1)/\As (Own 5 .u8 w' W.heap.size (.slice A1 n1 c1) (num 0)/\Kp [] W w')):=⟨by
  refine(ref.num_any 0 W).mono ?_
  rintro e w' ⟨v,rfl,o,k⟩
  obtain⟨A1,c1,rfl,_⟩:=own_rd o.1
  exact⟨A1,_,c1,rfl,⟨o,k⟩⟩⟩
 have HK:=As.mk kW
 clear hb kW
 unfold actObj at hW
 go_enter Tryz.func67,Tryz.ntmps67
 go_wp2_with (go_at_call 80;refine HM.out.mono ?_;rintro e w1 ⟨A1,n1,c1,rfl,HR⟩;clear HM)
 go_ret
 exact⟨_,rfl,HR.out.1.lower HK.out.size,HK.out.trans HR.out.2 (by simp)⟩
theorem data_one(w:World)(kd an er hi fr:Int)(key:ByteArray)(BV MV:Value):
 Calls Tryz.prog 67 #[.agg #[.int .i64 kd,.int .i64 an,.int .i64 er,.int .i64 hi,.int .i64 1,.int .i64 fr,.string key,BV,MV]] w (RetOwn 5 .u8 w (repBytes (bits BinOp.and IntKind.i64 er 7) [bits BinOp.and IntKind.i64 an 1])):=by
 obtain⟨W,hW⟩:∃W,w.alloc (actObj kd an er hi 1 fr key BV MV)=W:=⟨_,rfl⟩
 have kW:Kp [] w W:=by rw[<-hW];exact(Kp.refl [] w).alloc _
 have hb:W.heap[w.heap.size]?=some (actObj kd an er hi 1 fr key BV MV):=by rw[<-hW];exact heap_alloc_new w _
 have a4:=bkc hb 4 rfl
 have a1:W.cell? ⟨w.heap.size,1,none⟩=some (.int .i64 an):=bkc hb 1 rfl
 have a2:W.cell? ⟨w.heap.size,2,none⟩=some (.int .i64 er):=bkc hb 2 rfl
 obtain⟨e7,he7⟩:∃x,bits BinOp.and IntKind.i64 er 7=x:=⟨_,rfl⟩
 obtain⟨y,hy⟩:∃x,bits BinOp.and IntKind.i64 an 1=x:=⟨_,rfl⟩
 rw[he7,hy]
 have HM:As (∀b,b=W.heap.size->Calls Tryz.prog 16 #[.int .i64 e7,.slice (some ⟨b,0,none⟩) 1 1] (W.alloc (.cells #[.int .i64 y] 3)) fun e w'=>∃A1 n1 c1,e= .returned (.slice A1 n1 c1)/\As (Own 5 .u8 w' W.heap.size (.slice A1 n1 c1) (repBytes e7 [y])/\Kp [] W w')):=⟨fun b hb9=>by
  subst hb9
  refine(refRep_any e7 (some ⟨W.heap.size,0,none⟩) 1 1 [y] _ rfl (rd_new W (iv .i64 [y]) 3) (by decide) (by simp) (by decide)).mono ?_
  rintro e w' ⟨v,rfl,o,k⟩
  obtain⟨A1,c1,rfl,_⟩:=own_rd o.1
  exact⟨A1,_,c1,rfl,⟨o.lower (by simp),((Kp.refl [] W).alloc _).trans k (by simp)⟩⟩⟩
 have HK:=As.mk kW
 clear hb kW
 unfold actObj at hW
 go_enter Tryz.func67,Tryz.ntmps67
 go_upto_region 3 with fail
 try rw[hW]
 clear hW
 go_wp2_with (go_at_call 16;refine(HM.out _ (by simp)).mono ?_;rintro e w1 ⟨A1,n1,c1,rfl,HR⟩;clear HM)
 go_ret
 exact⟨_,rfl,HR.out.1.lower HK.out.size,HK.out.trans HR.out.2 (by simp)⟩
theorem data_two(w:World)(kd an er hi fr:Int)(key:ByteArray)(A:Option Addr)(n c:Nat)(xs:List Int)(MV:Value)(hn:xs.length=n)(hr:Rd w A (iv .u8 xs))(hnil:A=none->c=0)(hm:n<=1000000):
 Calls Tryz.prog 67 #[.agg #[.int .i64 kd,.int .i64 an,.int .i64 er,.int .i64 hi,.int .i64 2,.int .i64 fr,.string key,.slice A n c,MV]] w (RetOwn 5 .u8 w (num 1++row xs)):=by
 obtain⟨W,hW⟩:∃W,w.alloc (actObj kd an er hi 2 fr key (.slice A n c) MV)=W:=⟨_,rfl⟩
 have kW:Kp [] w W:=by rw[<-hW];exact(Kp.refl [] w).alloc _
 obtain⟨mb,hmb⟩:∃mb,w.heap.size=mb:=⟨_,rfl⟩
 have hb:W.heap[mb]?=some (actObj kd an er hi 2 fr key (.slice A n c) MV):=by rw[<-hW,<-hmb];exact heap_alloc_new w _
 have a4:=bkc hb 4 rfl
 have a7:W.cell? ⟨mb,7,none⟩=some (.slice A n c):=bkc hb 7 rfl
 obtain⟨X1,hX1⟩:∃X,num 1=X:=⟨_,rfl⟩
 obtain⟨X2,hX2⟩:∃X,row xs=X:=⟨_,rfl⟩
 obtain⟨n1,hn1⟩:∃n,X1.length=n:=⟨_,rfl⟩
 obtain⟨n2,hn2⟩:∃n,X2.length=n:=⟨_,rfl⟩
 have b1:n1<=100:=by have:=num_len 1;rw[<-hn1,<-hX1];omega
 have b2:n2<=1000200:=by have:=haystacklaw13.row_len xs;rw[<-hn2,<-hX2];omega
 rw[hX1,hX2]
 have HL2:=As.mk hn2
 have KZ:As (∀wX,Kp [] W wX->wX.cell? ⟨mb,7,none⟩=some (.slice A n c)):=⟨fun wX kX=>kX.cell a7 (by simp)⟩
 have HN:As (∀wX,Kp [] W wX->Calls Tryz.prog 80 #[.int .i64 1] wX fun e w1=>∃A1 c1,e= .returned (.slice A1 n1 c1)/\w1.cell? ⟨mb,7,none⟩=some (.slice A n c)/\As (Acc W w1 (.slice A1 n1 c1) n1 X1)):=⟨fun wX kX=>by
  refine(ref.num_any 1 wX).mono ?_
  rintro e w' ⟨v,rfl,o,k⟩
  have oo:=o.1
  rw[hX1,hn1] at oo
  obtain⟨A1,c1,rfl,_⟩:=own_rd oo
  have k2:=kX.trans k (by simp)
  exact⟨A1,c1,rfl,k2.cell a7 (by simp),⟨oo,fun g hg=>Nat.le_trans kX.size (o.2 g hg),k2⟩⟩⟩
 have HB:As (∀wX,Kp [] W wX->Calls Tryz.prog 43 #[.slice A n c] wX fun e w2=>∃A2 c2,e= .returned (.slice A2 n2 c2)/\As (Rd w2 A2 (iv .u8 X2)/\(A2=none->c2=0)/\Kp [] wX w2)):=⟨fun wX kX=>by
  refine(ref.bytes_any A n c xs wX hn ((kW.trans kX (by simp)).rd_new hr (by simp)) hnil (by omega)).mono ?_
  rintro e w' ⟨v,rfl,o,k⟩
  have oo:=o.1
  rw[hX2,hn2] at oo
  obtain⟨A1,c1,rfl,_,_,rr,h0⟩:=own_rd oo
  rw[hX2] at o
  exact⟨A1,c1,rfl,⟨rr,h0,k⟩⟩⟩
 have HK:=As.mk kW
 clear hb kW hn hr hnil hm hX1 hX2 hn1 hn2
 unfold actObj at hW
 go_enter Tryz.func67,Tryz.ntmps67
 go_upto_region 5 with fail
 try rw[hW]
 clear hW
 go_region_held3 (fun wX=>wX.cell? ⟨mb,7,none⟩=some (.slice A n c))
  (first|exact KZ.out _ (Kp.refl _ _)|exact KZ.out _ (Kp.refl [] W).drew|exact KZ.out _ ((Kp.refl [] W).drewN _)|exact KZ.out _ HA1.out.kp|exact KZ.out _ (HA1.out.kp.drewN _)|exact KZ.out _ HA1.out.kp.drew|exact KZ.out _ HA2.out.kp|exact KZ.out _ (HA2.out.kp.drewN _)|exact KZ.out _ HA2.out.kp.drew|exact KZ.out _ HA3.out.kp|exact KZ.out _ (HA3.out.kp.drewN _)|exact KZ.out _ HA3.out.kp.drew)
  (first
  |(go_at_call 80;refine(HN.out _ (by first|exact Kp.refl _ _|exact(Kp.refl [] W).drew|exact(Kp.refl [] W).drewN _)).mono ?_;rintro e w1 ⟨A1,c1,rfl,y7,HA1⟩)
  |(go_at_call 43;refine(HB.out _ (by first|exact HA1.out.kp|exact HA1.out.kp.drew|exact HA1.out.kp.drewN _)).mono ?_;rintro e w2 ⟨A2,c2,rfl,HR2⟩;have HA2:=As.mk (HA1.out.keep (Kp.trans (by first|exact Kp.refl _ _|exact(Kp.refl [] w1).drew|exact(Kp.refl [] w1).drewN _) HR2.out.2.2 (by simp))))
  |(refine step_app (by rfl) (.tmp 17) (.tmp 20) 24 (by rfl) 5 (.int .u8 0) 1 1 Tryz.underlying24 clone.info_u8 rfl (by decide) (.slice A1 n1 c1) n1 (iv .u8 X1) (by rfl) (by first|exact HA2.out.own|exact((HA2.out.keep ((Kp.refl [] w2).drew)).own)|exact((HA2.out.keep ((Kp.refl [] w2).drewN _)).own)) A2 n2 c2 (iv .u8 X2) (by rfl) (by rw[iv_len,HL2.out,Nat.mul_one]) (by first|exact HR2.out.1|exact((Kp.refl [] w2).drew).rd_new HR2.out.1 (by simp)|exact((Kp.refl [] w2).drewN _).rd_new HR2.out.1 (by simp)) HR2.out.2.1 (iv_one _ _) (by omega) (by omega) ?_;intro v3 w3 o3 k3 a3;have HA3:As (Acc W w3 v3 (n1+n2) (X1++X2)):=⟨by first|exact HA2.out.more o3 k3 a3 rfl|exact(HA2.out.keep ((Kp.refl [] w2).drew)).more o3 k3 a3 rfl|exact(HA2.out.keep ((Kp.refl [] w2).drewN _)).more o3 k3 a3 rfl⟩;clear o3 k3 a3)
  |fail)
 all_goals
  go_wp2_with fail
  go_ret
  exact⟨_,rfl,⟨by rw[HA3.out.len];exact HA3.out.own,fun g hg=>Nat.le_trans HK.out.size (HA3.out.lo g hg)⟩,HK.out.trans HA3.out.kp (by simp)⟩
end Go.Proofs.YtdiljpdohmeceaaGreat.co
