/- Words and walks that this claim rests on: proved lemmas alone. -/
import Derived.Test.YtdiljpdohmeceaaGreatZ12
set_option maxHeartbeats 16000000
set_option maxRecDepth 100000
namespace Go.Proofs.YtdiljpdohmeceaaGreat.ref13
open Go.RowKit H O opk haystacklaw13
theorem mat_any(A:Option Addr)(n c:Nat)(ms:List (ByteArray×Int))(w:World)(hn:ms.length=n)(hr:Rd w A (mv ms))(hm:mSize ms<=100000):
 Calls Tryz.prog 100 #[.slice A n c] w (RetOwn 5 .u8 w (mBytes ms)):=by
 have HR:=As.mk hr
 have HN:=As.mk hn
 have hn9:n<=20000:=by have:=mSize_len ms;omega
 have HB:As (∀k,(num (n:Int)++mRows (ms.take k)).length<=900000):=⟨fun k=>by
  have h1:=num_len (n:Int)
  have h2:=mRows_len (ms.take k)
  have h3:=mSize_le ms k
  rw[List.length_append];omega⟩
 have HNM:As (∀(x:Int) (wX:World),Calls Tryz.prog 80 #[.int .i64 x] wX fun e w'=>∃A5 n5 c5,e= .returned (.slice A5 n5 c5)/\n5=(num x).length/\Own 5 .u8 w' wX.heap.size (.slice A5 n5 c5) (num x)/\Rd w' A5 (iv .u8 (num x))/\(A5=none->c5=0)/\Kp [] wX w'):=⟨fun x wX=>by
  refine(ref.num_any x wX).mono ?_
  rintro e w' ⟨v,rfl,o,kk⟩
  obtain⟨A5,c5,rfl,_,_,r5,n5⟩:=own_rd o.1
  exact⟨A5,_,c5,rfl,rfl,o,r5,n5,kk⟩⟩
 have HSZ:=As.mk hm
 clear hr hn hm
 go_enter Tryz.func100,Tryz.ntmps100
 go_wp2_with (first
  |(go_at_call 80;refine(HNM.out _ _).mono ?_;rintro e w3 ⟨A3,n3,c3,rfl,hn3,o3,r3,m3,k3⟩;have o3':=o3.1;rw[<-hn3] at o3';have HA3:As (Acc w w3 (.slice A3 n3 c3) n3 (num (n:Int))):=⟨o3',o3.2,k3⟩;clear hn3 o3 r3 m3 k3 o3'))
 go_loopw [3,4] (fun s i wr=>∃(k T c':Nat) (A':Option Addr),i= .int .i64 (k:Int)/\s= .slice A' T c'/\k<=n/\As (Acc w wr (.slice A' T c') T (num (n:Int)++mRows (ms.take k)))) (fun _ i _=>n-(intOf i).toNat)
 case atStart=>exact⟨0,n3,c3,A3,rfl,rfl,by omega,⟨by simpa [mRows] using HA3.out⟩⟩
 case round=>
  obtain⟨k,T,c',A',rfl,rfl,hk,HA⟩:=hrel
  have hT9:T<=900000:=by have:=HA.out.len;rw[<-this];exact HB.out k
  by_cases hlt:k<n
  ·have hlt':k<ms.length:=by rw[HN.out];exact hlt
   obtain⟨b0,o0,rfl,d0,d1⟩:=mv_at HR.out k hlt'
   have c0:=HA.out.kp.cell d0 (by simp)
   obtain⟨key,hkey⟩:∃key,key=ms[k].1:=⟨_,rfl⟩
   obtain⟨x,hx⟩:∃x,x=ms[k].2:=⟨_,rfl⟩
   obtain⟨m,hkm⟩:∃m,key.size=m:=⟨_,rfl⟩
   obtain⟨Y1,hY1⟩:∃Y,Y=row (kb key):=⟨_,rfl⟩
   obtain⟨R1,hR1⟩:∃R,Y1.length=R:=⟨_,rfl⟩
   obtain⟨T1,hT1⟩:∃T1,T1=T+R1:=⟨_,rfl⟩
   obtain⟨Y2,hY2⟩:∃Y,Y=num x:=⟨_,rfl⟩
   obtain⟨R2,hR2⟩:∃R,Y2.length=R:=⟨_,rfl⟩
   obtain⟨T2,hT2⟩:∃T2,T2=T1+R2:=⟨_,rfl⟩
   rw[<-hkey] at c0
   rw[<-hx] at d1
   have HST:As (num (n:Int)++mRows (ms.take (k+1))=num (n:Int)++mRows (ms.take k)++Y1++Y2):=⟨by rw[mRows_step ms k hlt',<-hkey,<-hx,hY1,hY2];simp⟩
   have hms:m<=100000:=by
    have h1:=mSize_step ms k hlt'
    have h2:=mSize_le ms (k+1)
    have h3:=HSZ.out
    rw[<-hkey,hkm] at h1
    omega
   have hR19:R1<=1000000:=by have h1:=row_len (kb key);rw[<-hR1,hY1];rw[kb_len] at h1;omega
   have hR29:R2<=1000:=by have h1:=num_len x;rw[<-hR2,hY2];omega
   have HB1:As (Calls Tryz.prog 43 #[.slice (some ⟨wr.heap.size,0,none⟩) m (grownCap wr m 0 5)] (Lib.bytesWorld wr 5 key) fun e w'=>∃A5 c5,e= .returned (.slice A5 R1 c5)/\Rd w' A5 (iv .u8 Y1)/\(A5=none->c5=0)/\Kp [] wr w'):=⟨by
    refine(ref.bytes_any (some ⟨wr.heap.size,0,none⟩) m (grownCap wr m 0 5) (kb key) _ (by rw[kb_len,hkm]) (rd_bytes wr 5 key) (by simp) (by omega)).mono ?_
    rintro e w' ⟨v,rfl,o,kk⟩
    rw[<-hY1] at o
    obtain⟨A5,c5,rfl,_,_,r5,n5⟩:=own_rd o.1
    rw[hR1]
    exact⟨A5,c5,rfl,r5,n5,(kp_bytes (Kp.refl [] wr) 5 key).trans kk (by simp)⟩⟩
   have HNX:As (∀wX:World,Calls Tryz.prog 80 #[.int .i64 x] wX fun e w'=>∃A5 c5,e= .returned (.slice A5 R2 c5)/\Rd w' A5 (iv .u8 Y2)/\(A5=none->c5=0)/\Kp [] wX w'):=⟨fun wX=>by
    refine(HNM.out x wX).mono ?_
    rintro e w' ⟨A5,n5,c5,rfl,h5,o,r5,m5,kk⟩
    rw[<-hY2] at h5 r5
    rw[h5,hR2]
    exact⟨A5,c5,rfl,r5,m5,kk⟩⟩
   have hcv:=Lib.run_convert_string_bytes (P:=Tryz.prog) wr 9 24 5 key Tryz.underlying9 Tryz.underlying24 Tryz.underlying5
   rw[hkm] at hcv
   have HD1:=As.mk d1
   have HR1:=As.mk hR1
   have HR2:=As.mk hR2
   have HT1:=As.mk hT1
   have HT2:=As.mk hT2
   have hT19:T1<=1900000:=by omega
   clear d0 d1 hkey hx hkm hlt' hY1 hR1 hT1 hY2 hR2 hT2
   go_wp2_with (first
    |(go_at_call 43;refine HB1.out.mono ?_;rintro e w5 ⟨A5,c5,rfl,r5,n5,k5⟩;have HR5:=As.mk r5;have HN5:=As.mk n5;have HA5:=As.mk (HA.out.keep k5);clear r5 n5 k5 HB1)
    |(go_at_call 80;refine(HNX.out _).mono ?_;rintro e w7 ⟨A7,c7,rfl,r7,n7,k7⟩;have HR7:=As.mk r7;have HN7:=As.mk n7;have HA7:=As.mk (HA6.out.keep k7);clear r7 n7 k7 HNX)
    |(at_builtin;refine clone.app8 rfl (.tmp 23) (.tmp 29) rfl (.slice A6 T1 c6) T1 (iv .u8 (num (n:Int)++mRows (ms.take k)++Y1)) rfl HA7.out.own A7 R2 c7 (iv .u8 Y2) rfl (by rw[iv_len,HR2.out]) HR7.out HN7.out (iv_one _ _) (by omega) ?_;intro v8 w8 o8 k8 a8;have h8:=HA7.out.more o8 k8 a8 HT2.out;rw[<-HST.out] at h8;obtain⟨A8,c8,rfl,_,_,_,_⟩:=own_rd h8.own;have HA8:=As.mk h8;clear o8 k8 a8 h8 HA7)
    |(at_builtin;refine clone.app8 rfl (.tmp 14) (.tmp 21) rfl (.slice A' T c') T (iv .u8 (num (n:Int)++mRows (ms.take k))) rfl HA5.out.own A5 R1 c5 (iv .u8 Y1) rfl (by rw[iv_len,HR1.out]) HR5.out HN5.out (iv_one _ _) (by omega) ?_;intro v6 w6 o6 k6 a6;have h6:=HA5.out.more o6 k6 a6 HT1.out;obtain⟨A6,c6,rfl,_,_,_,_⟩:=own_rd h6.own;have HA6:=As.mk h6;have c16:=h6.kp.cell HD1.out (by simp);clear o6 k6 a6 h6 HA5))
   go_roundw
   case rel=>exact⟨k+1,T2,c8,A8,by go_num,rfl,by omega,HA8⟩
   case measure=>simp[intOf];omega
  ·obtain rfl:k=n:=by omega
   have htk:ms.take k=ms:=List.take_of_length_le (by rw[HN.out];exact Nat.le_refl _)
   rw[htk,show num (k:Int)++mRows ms=mBytes ms by rw[mBytes,HN.out]] at HA
   clear htk
   go_wp2
   go_ret
   exact⟨_,rfl,⟨by rw[HA.out.len];exact HA.out.own,HA.out.lo⟩,HA.out.kp⟩
end Go.Proofs.YtdiljpdohmeceaaGreat.ref13
namespace Go.Proofs.YtdiljpdohmeceaaGreat.co
open Go.RowKit H O opk frame wir
theorem data_four(w:World)(kd an er hi fr:Int)(key:ByteArray)(BV:Value)(A:Option Addr)(n c:Nat)(l:List (ByteArray×Int))(hn:l.length=n)(hr:Rd w A (mv l))(hm:mSize l<=100000):
 Calls Tryz.prog 67 #[.agg #[.int .i64 kd,.int .i64 an,.int .i64 er,.int .i64 hi,.int .i64 4,.int .i64 fr,.string key,BV,.slice A n c]] w (RetOwn 5 .u8 w (mBytes l)):=by
 obtain⟨W,hW⟩:∃W,w.alloc (actObj kd an er hi 4 fr key BV (.slice A n c))=W:=⟨_,rfl⟩
 have kW:Kp [] w W:=by rw[<-hW];exact(Kp.refl [] w).alloc _
 have hb:W.heap[w.heap.size]?=some (actObj kd an er hi 4 fr key BV (.slice A n c)):=by rw[<-hW];exact heap_alloc_new w _
 have a4:=bkc hb 4 rfl
 have a8:W.cell? ⟨w.heap.size,8,none⟩=some (.slice A n c):=bkc hb 8 rfl
 have HM:As (Calls Tryz.prog 100 #[.slice A n c] W fun e w'=>∃A1 n1 c1,e= .returned (.slice A1 n1 c1)/\As (Own 5 .u8 w' W.heap.size (.slice A1 n1 c1) (mBytes l)/\Kp [] W w')):=⟨by
  refine(ref13.mat_any A n c l W hn (kW.rd_new hr (by simp)) hm).mono ?_
  rintro e w' ⟨v,rfl,o,k⟩
  obtain⟨A1,c1,rfl,_⟩:=own_rd o.1
  exact⟨A1,_,c1,rfl,⟨o,k⟩⟩⟩
 have HK:=As.mk kW
 clear hb hn hr hm kW
 unfold actObj at hW
 go_enter Tryz.func67,Tryz.ntmps67
 go_wp2_with (go_at_call 100;refine HM.out.mono ?_;rintro e w1 ⟨A1,n1,c1,rfl,HR⟩;clear HM)
 go_ret
 exact⟨_,rfl,HR.out.1.lower HK.out.size,HK.out.trans HR.out.2 (by simp)⟩
end Go.Proofs.YtdiljpdohmeceaaGreat.co
