/- Words and walks that this claim rests on: proved lemmas alone. -/
import Derived.Test.YtdiljpdohmeceaaGreatZ13
set_option maxHeartbeats 16000000
set_option maxRecDepth 100000
namespace Go.Proofs.YtdiljpdohmeceaaGreat.O
open Go.RowKit H
theorem head_iff{xs:List Int}(hw:Wf xs)(h8:8<=xs.length):xs.take 8=head (unf xs)↔unf (xs.drop 4)=crc (xs.take 4):=by
 have hw4:=hw.take 4
 have e4:four (unf xs)=xs.take 4:=by
  have h:=four_unf (l:=xs.take 4) (by rw[List.length_take];omega) hw4
  rwa[unf_take (by omega)] at h
 have e8:xs.take 8=xs.take 4++(xs.drop 4).take 4:=by
  rw[show(8:Nat)=4+4 from rfl,List.take_add]
 have hd:((xs.drop 4).take 4).length=4:=by rw[List.length_take,List.length_drop];omega
 rw[head,e4,e8]
 constructor
 ·intro h
  have h1:=List.append_cancel_left h
  have h2:=congrArg unf h1
  rwa[unf_take (by omega),unf_four (crc_le _).1 (crc_le _).2] at h2
 ·intro h
  rw[<-h]
  have h1:=four_unf hd ((hw.drop 4).take 4)
  rw[unf_take (by omega)] at h1
  rw[h1]
theorem fDec_err{b:List Int}(h:(fDec b).2.2≠0):(fDec b).1=[]:=by
 rcases fDec_form b with h0|h0
 ·exact absurd h0 h
 ·rw[h0]
end Go.Proofs.YtdiljpdohmeceaaGreat.O
namespace Go.Proofs.YtdiljpdohmeceaaGreat.ref8
open Go.RowKit H O joins frame
theorem four_acc{w wr:World}(k:Kp [] w wr)(v:Int)(h0:0<=v)(h1:v<4294967296):Calls Tryz.prog 81 #[.int .u32 v] wr fun e w'=>∃A,e= .returned (.slice A 4 4)/\Acc w w' (.slice A 4 4) 4 (four v)/\Rd w' A (iv .u8 (four v))/\Kp [] wr w'/\(A=none->4=0):=by
 refine(ref1.four_any v wr h0 h1).mono ?_
 rintro e w' ⟨rfl,rfl⟩
 have ho:=own_new wr (iv .u8 (four v)) 5 (by rw[iv_len,four_len];decide)
 have hs:=k.size
 exact⟨_,rfl,⟨ho,by intro g hg;simp[Value.ownBlock] at hg;omega,k.alloc _⟩,rd_new wr _ _,(Kp.refl [] wr).alloc _,by simp⟩
theorem enc_any(A:Option Addr)(n c:Nat)(p:List Int)(w:World)(hn:p.length=n)(hr:Rd w A (iv .u8 p))(hnil:A=none->c=0)(hw:Wf p)(hm:n<=1000000)(N:Nat)(hN:N=n+12):
 Calls Tryz.prog 42 #[.slice A n c] w fun e w'=>∃A1 c1,e= .returned (.tuple #[.slice A1 N c1,.int .i64 0])/\Acc w w' (.slice A1 N c1) N (fEnc p)/\N<=c1:=by
 have HR:=As.mk hr
 have HNL:=As.mk hnil
 have HL:=As.mk hn
 have hwT:IntKind.u32.wrap (n:Int)=n:=by rw[IntKind.wrap_u32];omega
 have hwT2:(n:Int)%4294967296=n:=by omega
 have HF1:=As.mk (four_acc (Kp.refl [] w) (n:Int) (by omega) (by omega))
 obtain⟨s1,hs1⟩:∃s,s=crc (four (n:Int)):=⟨_,rfl⟩
 obtain⟨b2,hb2⟩:∃b,b=head (n:Int)++p:=⟨_,rfl⟩
 obtain⟨s2,hs2⟩:∃s,s=crc b2:=⟨_,rfl⟩
 obtain⟨M,hM⟩:∃M,M=8+n:=⟨_,rfl⟩
 have HSB1:As (0<=s1/\s1<4294967296):=⟨by rw[hs1];exact crc_le _⟩
 have HSB2:As (0<=s2/\s2<4294967296):=⟨by rw[hs2];exact crc_le _⟩
 have HH:As (four (n:Int)++four s1=head (n:Int)):=⟨by rw[head,hs1]⟩
 have HB2:=As.mk hb2
 have HFE:As (b2++four s2=fEnc p):=⟨by rw[fEnc,hn,<-hb2,hs2]⟩
 have HM:=As.mk hM
 have HLB:As (b2.length=M):=⟨by rw[hb2,List.length_append,head_len,hn,hM]⟩
 have HWB:As (Wf b2):=⟨by rw[hb2];exact wf_app (head_wf _) hw⟩
 have HNM:As (N=M+4):=⟨by omega⟩
 have HS1:=As.mk hs1
 have HS2:=As.mk hs2
 have hM9:M<=1000008:=by omega
 clear hr hn hnil hw hs1 hb2 hs2 hM hN
 go_enter Tryz.func42,Tryz.ntmps42
 go_wp2_with (first
  |(go_at_call 81;refine HF1.out.mono ?_;rintro e w1 ⟨A1,rfl,a1,r1,k1,n1⟩;have HA1:=As.mk a1;have HSM1:=As.mk (sum.ref_any A1 4 4 (four (n:Int)) w1 (four_len _) r1 (by decide) (four_wf _));rw[<-HS1.out] at HSM1;clear a1 r1 k1 n1 HF1)
  |(go_at_call 82;refine HSM1.out.mono ?_;rintro e w2 ⟨rfl,nk2,hw2⟩;have HA2:=As.mk (HA1.out.keep (w1:=w2) (by rw[hw2];exact(Kp.refl [] w1).drewN _));have HF2:=As.mk (four_acc HA2.out.kp s1 HSB1.out.1 HSB1.out.2);clear hw2 HSM1)
  |(go_at_call 81;refine HF2.out.mono ?_;rintro e w3 ⟨A3,rfl,-,r3,k3,n3⟩;have HA3:=As.mk (HA2.out.keep k3);have HR3:=As.mk r3;have HN3:=As.mk n3;clear r3 k3 n3 HF2)
  |(at_builtin;refine clone.app8 rfl (.tmp 17) (.tmp 18) rfl (.slice A4 8 c4) 8 (iv .u8 (head (n:Int))) rfl HA4.out.own A n c (iv .u8 p) rfl (by rw[iv_len,HL.out]) (HA4.out.kp.rd_new HR.out (by simp)) HNL.out (iv_one _ _) (by omega) ?_;intro v5 w5 o5 k5 a5;have h5:=HA4.out.more o5 k5 a5 HM.out;rw[<-HB2.out] at h5;obtain⟨A5,c5,rfl,hc5,_,r5,_⟩:=own_rd h5.own;have HA5:=As.mk h5;have HSM2:=As.mk (sum.ref_any A5 M c5 b2 w5 HLB.out r5 (by omega) HWB.out);rw[<-HS2.out] at HSM2;clear o5 k5 a5 h5 r5)
  |(at_builtin;refine clone.app8 rfl (.tmp 12) (.tmp 15) rfl (.slice A1 4 4) 4 (iv .u8 (four (n:Int))) rfl HA3.out.own A3 4 4 (iv .u8 (four s1)) rfl (by rw[iv_len,four_len]) HR3.out HN3.out (iv_one _ _) (by decide) ?_;intro v4 w4 o4 k4 a4;have h4:=HA3.out.more o4 k4 a4 (rfl:8=4+4);rw[HH.out] at h4;obtain⟨A4,c4,rfl,_,_,_,_⟩:=own_rd h4.own;have HA4:=As.mk h4;clear o4 k4 a4 h4)
  |(go_at_call 82;refine HSM2.out.mono ?_;rintro e w6 ⟨rfl,nk6,hw6⟩;have HA6:=As.mk (HA5.out.keep (w1:=w6) (by rw[hw6];exact(Kp.refl [] w5).drewN _));have HF3:=As.mk (four_acc HA6.out.kp s2 HSB2.out.1 HSB2.out.2);clear hw6 HSM2)
  |(go_at_call 81;refine HF3.out.mono ?_;rintro e w7 ⟨A7,rfl,-,r7,k7,n7⟩;have HA7:=As.mk (HA6.out.keep k7);have HR7:=As.mk r7;have HN7:=As.mk n7;clear r7 k7 n7 HF3)
  |(at_builtin;refine clone.app8 rfl (.tmp 20) (.tmp 23) rfl (.slice A5 M c5) M (iv .u8 b2) rfl HA7.out.own A7 4 4 (iv .u8 (four s2)) rfl (by rw[iv_len,four_len]) HR7.out HN7.out (iv_one _ _) (by omega) ?_;intro v8 w8 o8 k8 a8;have h8:=HA7.out.more o8 k8 a8 HNM.out;rw[HFE.out] at h8;obtain⟨A8,c8,rfl,hc8,_,_,_⟩:=own_rd h8.own;have HA8:=As.mk h8;clear o8 k8 a8 h8))
 go_ret2
 exact⟨A8,c8,rfl,HA8.out,hc8⟩
theorem dec_any(A:Option Addr)(n c:Nat)(xs:List Int)(w:World)(hn:xs.length=n)(hr:Rd w A (iv .u8 xs))(hc:n<=c)(hw:Wf xs)(hm:n<=140737488351232):
 Calls Tryz.prog 77 #[.slice A n c] w (FDec xs w):=by
 by_cases h8:n<8
 ·have HE:As (fDec xs=([],0,2)):=⟨by rw[fDec,if_pos (by omega)]⟩
  clear hr hw hn
  go_enter Tryz.func77,Tryz.ntmps77
  go_wp2
  go_ret3
  exact fdec_none HE.out (Kp.refl _ _)
 ·obtain⟨a,rfl,d9⟩:=hr.int 0 (by omega)
  obtain⟨b0,o0,sp⟩:=a
  obtain rfl:sp=none:=by simpa [Addr.add] using World.cell?_spot d9
  clear d9
  obtain⟨N,hN⟩:∃N:Nat,(unf xs)=(N:Int):=Int.eq_ofNat_of_zero_le (unf_le hw).1
  have hN32:=(unf_le hw).2
  rw[hN] at hN32
  have HN32:=As.mk hN32
  clear hN32
  have hsl4:∀W,(Instr.slice 24 (.slice (some ⟨b0,o0,none⟩) n c) none (some (.int .i64 4)) none).run Tryz.prog W= .ok (.slice (some ⟨b0,o0,none⟩) 4 c) W:=slice_head ht8 hz8 (some ⟨b0,o0,none⟩) n c 4 (by omega) (by simp)
  obtain⟨a4,hsl4',hrd4⟩:=slice_tail ht8 hz8 ⟨b0,o0,none⟩ n c 4 (by omega) hc
  have hsl4'':∀W,(Instr.slice 24 (.slice (some ⟨b0,o0,none⟩) n c) (some (.int .i64 4)) none none).run Tryz.prog W= .ok (.slice (some a4) (n-4) (c-4)) W:=hsl4'
  clear hsl4'
  obtain⟨n4,hn4⟩:∃k,n-4=k:=⟨_,rfl⟩
  obtain⟨c4,hc4⟩:∃k,c-4=k:=⟨_,rfl⟩
  rw[hn4,hc4] at hsl4''
  have hw64:IntKind.i64.wrap (N:Int)=N:=by have:=HN32.out;rw[IntKind.wrap_i64];omega
  obtain⟨y1,hy1⟩:∃z,unf (xs.drop 4)=z:=⟨_,rfl⟩
  obtain⟨y2,hy2⟩:∃z,crc (xs.take 4)=z:=⟨_,rfl⟩
  have HFA:As (∀wX,Kp [] w wX->Calls Tryz.prog 112 #[.slice (some a4) n4 c4] wX fun e w'=>e= .returned (.int .u32 y1)/\Kp [] w w'):=⟨fun wX k=>by
   have h:=hrd4 wX (iv .u8 xs) (by rw[iv_len,hn]) (k.rd_new hr (by simp))
   rw[iv_drop] at h
   refine(ref1.from_any (some a4) n4 c4 (xs.drop 4) wX (by rw[List.length_drop];omega) h (hw.drop 4) (by omega)).mono ?_
   rintro e w' ⟨rfl,nk,rfl⟩
   exact⟨by rw[hy1],k.drewN _⟩⟩
  have HSA:As (∀wX,Kp [] w wX->Calls Tryz.prog 82 #[.slice (some ⟨b0,o0,none⟩) 4 c] wX fun e w'=>e= .returned (.int .u32 y2)/\Kp [] w w'):=⟨fun wX k=>by
   have h:=(k.rd_new hr (by simp)).take 4
   rw[iv_take] at h
   refine(sum.ref_any (some ⟨b0,o0,none⟩) 4 c (xs.take 4) wX (by rw[List.length_take];omega) h (by decide) (hw.take 4)).mono ?_
   rintro e w' ⟨rfl,nk,rfl⟩
   exact⟨by rw[hy2],k.drewN _⟩⟩
  have HFB:As (∀wX,Kp [] w wX->Calls Tryz.prog 112 #[.slice (some ⟨b0,o0,none⟩) n c] wX fun e w'=>e= .returned (.int .u32 (N:Int))/\Kp [] w w'):=⟨fun wX k=>by
   refine(ref1.from_any (some ⟨b0,o0,none⟩) n c xs wX hn (k.rd_new hr (by simp)) hw (by omega)).mono ?_
   rintro e w' ⟨rfl,nk,rfl⟩
   exact⟨by rw[hN],k.drewN _⟩⟩
  by_cases hh:y1=y2
  ·have hh8:xs.take 8=head N:=by rw[<-hN];exact(head_iff hw (by omega)).2 (by rw[hy1,hy2,hh])
   subst hh
   by_cases hbig:1048576<N
   ·have HE:As (fDec xs=([],0,5)):=⟨by rw[fDec,if_neg (by omega),hN,if_neg (by simpa using hh8),if_pos (by omega)]⟩
    clear hr hw hn hN hh8 hrd4 hn4 hc4 hy1 hy2
    go_enter Tryz.func77,Tryz.ntmps77
    go_wp2
    go_region_held3 (fun w'=>True) (exact trivial) (first
     |(go_at_call 112;refine(HFA.out w.drew (Kp.refl [] w).drew).mono ?_;rintro e w1 ⟨rfl,k1⟩;have HK1:=As.mk k1;clear k1)
     |(go_at_call 82;refine(HSA.out _ HK1.out).mono ?_;rintro e w2 ⟨rfl,k2⟩;have HK2:=As.mk k2;clear k2))
    have HFB1:=As.mk (HFB.out w2 HK2.out)
    clear HFA HSA HFB
    go_wp2_with (go_at_call 112;refine HFB1.out.mono ?_;rintro e w3 ⟨rfl,k3⟩;have HK3:=As.mk k3;clear k3 HFB1)
    go_ret3
    exact fdec_none HE.out HK3.out
   ·by_cases hsh:n<12+N
    ·have HE:As (fDec xs=([],0,2)):=⟨by rw[fDec,if_neg (by omega),hN,if_neg (by simpa using hh8),if_neg (by omega),if_pos (by omega)]⟩
     have hsh':(n:Int)<12+(N:Int):=by omega
     clear hr hw hn hN hh8 hrd4 hn4 hc4 hy1 hy2
     go_enter Tryz.func77,Tryz.ntmps77
     go_wp2
     go_region_held3 (fun w'=>True) (exact trivial) (first
      |(go_at_call 112;refine(HFA.out w.drew (Kp.refl [] w).drew).mono ?_;rintro e w1 ⟨rfl,k1⟩;have HK1:=As.mk k1;clear k1)
      |(go_at_call 82;refine(HSA.out _ HK1.out).mono ?_;rintro e w2 ⟨rfl,k2⟩;have HK2:=As.mk k2;clear k2))
     have HFB1:=As.mk (HFB.out w2 HK2.out)
     clear HFA HSA HFB
     go_wp2_with (go_at_call 112;refine HFB1.out.mono ?_;rintro e w3 ⟨rfl,k3⟩;have HK3:=As.mk k3;clear k3 HFB1)
     go_ret3
     exact fdec_none HE.out HK3.out
    ·have hsh':¬((n:Int)<12+(N:Int)):=by omega
     obtain⟨M,hM⟩:∃M,M=8+N:=⟨_,rfl⟩
     have hMi:(8:Int)+(N:Int)=(M:Int):=by omega
     have hslM:∀W,(Instr.slice 24 (.slice (some ⟨b0,o0,none⟩) n c) none (some (.int .i64 (M:Int))) none).run Tryz.prog W= .ok (.slice (some ⟨b0,o0,none⟩) M c) W:=slice_head ht8 hz8 (some ⟨b0,o0,none⟩) n c M (by omega) (by simp)
     obtain⟨a2,hsl2,hrd2⟩:=slice_tail ht8 hz8 ⟨b0,o0,none⟩ n c M (by omega) hc
     obtain⟨n2,hn2⟩:∃n2,n-M=n2:=⟨_,rfl⟩
     obtain⟨c2',hc2⟩:∃c2,c-M=c2:=⟨_,rfl⟩
     rw[hn2,hc2] at hsl2
     have hwM:IntKind.i64.wrap (8+(N:Int))=(M:Int):=by rw[IntKind.wrap_i64];omega
     have hwM2:IntKind.i64.wrap (M:Int)=(M:Int):=by rw[IntKind.wrap_i64];omega
     obtain⟨z1,hz1⟩:∃z,unf (xs.drop M)=z:=⟨_,rfl⟩
     obtain⟨z2,hz2⟩:∃z,crc (xs.take M)=z:=⟨_,rfl⟩
     have HF2:As (∀wX,Kp [] w wX->Calls Tryz.prog 112 #[.slice (some a2) n2 c2'] wX fun e w'=>e= .returned (.int .u32 z1)/\Kp [] w w'):=⟨fun wX k=>by
      have h:=hrd2 wX (iv .u8 xs) (by rw[iv_len,hn]) (k.rd_new hr (by simp))
      rw[iv_drop] at h
      refine(ref1.from_any (some a2) n2 c2' (xs.drop M) wX (by rw[List.length_drop];omega) h (hw.drop M) (by omega)).mono ?_
      rintro e w' ⟨rfl,nk,rfl⟩
      exact⟨by rw[hz1],k.drewN _⟩⟩
     have hlM:(xs.take M).length=M:=by rw[List.length_take];omega
     have HSM:As (∀wX,Kp [] w wX->Calls Tryz.prog 82 #[.slice (some ⟨b0,o0,none⟩) M c] wX fun e w'=>e= .returned (.int .u32 z2)/\Kp [] w w'):=⟨fun wX k=>by
      have h:=(k.rd_new hr (by simp)).take M
      rw[iv_take] at h
      refine(sum.ref_any (some ⟨b0,o0,none⟩) M c (xs.take M) wX hlM h (by omega) (hw.take M)).mono ?_
      rintro e w' ⟨rfl,nk,rfl⟩
      exact⟨by rw[hz2],k.drewN _⟩⟩
     obtain⟨K,hK⟩:∃K,12+N=K:=⟨_,rfl⟩
     have hKi:(12:Int)+(N:Int)=(K:Int):=by omega
     by_cases hz:z1=z2
     ·have HE:As (fDec xs=((xs.take M).drop 8,K,0)):=⟨by
       rw[fDec,if_neg (by omega),hN,if_neg (by simpa using hh8),if_neg (by omega),if_neg (by omega),Int.toNat_natCast,<-hM,if_neg (by rw[hz1,hz2];simpa using hz),hK]⟩
      have hslm:∀W,(Instr.slice 24 (.slice (some ⟨b0,o0,none⟩) n c) (some (.int .i64 8)) (some (.int .i64 (M:Int))) none).run Tryz.prog W= .ok (.slice (some ⟨b0,o0+8,none⟩) (M-8) (c-8)) W:=slice_mid ht8 hz8 b0 o0 n c 8 M (by omega) (by omega) (by omega)
      rw[show M-8=N by omega] at hslm
      have HRX:As (∀wX,Kp [] w wX->Rd wX (some ⟨b0,o0+8,none⟩) (iv .u8 ((xs.take M).drop 8))):=⟨fun wX k=>by
       have h:=((k.rd_new hr (by simp)).take M).drop 8
       rwa[iv_take,iv_drop,Go.WideShapes.add_plain] at h⟩
      have HLX:As (((xs.take M).drop 8).length=N):=⟨by rw[List.length_drop,hlM];omega⟩
      subst hz
      have hsh2:((n:Int)<(K:Int))=False:=by simp;omega
      clear hr hw hn hN hh8 hrd2 hrd4 hn4 hc4 hy1 hy2 hz1 hz2 hlM hM hn2 hc2 hK
      go_enter Tryz.func77,Tryz.ntmps77
      go_wp2
      go_region_held3 (fun w'=>True) (exact trivial) (first
       |(go_at_call 112;refine(HFA.out w.drew (Kp.refl [] w).drew).mono ?_;rintro e w1 ⟨rfl,k1⟩;have HK1:=As.mk k1;clear k1)
       |(go_at_call 82;refine(HSA.out _ HK1.out).mono ?_;rintro e w2 ⟨rfl,k2⟩;have HK2:=As.mk k2;clear k2))
      have HFB1:=As.mk (HFB.out w2 HK2.out)
      clear HFA HSA HFB
      go_wp2_with (go_at_call 112;refine HFB1.out.mono ?_;rintro e w3 ⟨rfl,k3⟩;have HK3:=As.mk k3;clear k3 HFB1)
      go_region_held3 (fun w'=>True) (exact trivial) (first
       |(go_at_call 112;refine(HF2.out w3.drew HK3.out.drew).mono ?_;rintro e w4 ⟨rfl,k4⟩;have HK4:=As.mk k4;clear k4)
       |(go_at_call 82;refine(HSM.out _ HK4.out).mono ?_;rintro e w5 ⟨rfl,k5⟩;have HK5:=As.mk k5;clear k5))
      clear HF2 HSM
      go_wp2_with (at_builtin;refine clone.app8 rfl (.tmp 37) (.tmp 41) rfl (.slice (some ⟨w5.heap.size,0,none⟩) 0 0) 0 [] rfl (Acc.empty HK5.out).own (some ⟨b0,o0+8,none⟩) N (c-8) (iv .u8 ((xs.take M).drop 8)) rfl (by rw[iv_len,HLX.out]) (HRX.out _ (HK5.out.alloc _)) (by simp) (iv_one _ _) (by omega) ?_;intro v6 w6 o6 k6 a6;have h6:=(Acc.empty HK5.out).more (X:=[]) o6 k6 a6 (Nat.zero_add N).symm;rw[List.nil_append] at h6;have HA6:=As.mk h6;clear o6 k6 a6 h6)
      go_ret3
      refine⟨v6,by rw[HE.out];rfl, ?_,HA6.out.kp⟩
      rw[HE.out]
      exact⟨by have h9:=HA6.out.own;rwa[HLX.out],HA6.out.lo⟩
     ·have HE:As (fDec xs=([],0,4)):=⟨by
       rw[fDec,if_neg (by omega),hN,if_neg (by simpa using hh8),if_neg (by omega),if_neg (by omega),Int.toNat_natCast,<-hM,if_pos (by rw[hz1,hz2];exact hz)]⟩
      have hzb:(z1 !=z2)=true:=by simpa using hz
      have hsh2:((n:Int)<(K:Int))=False:=by simp;omega
      clear hr hw hn hN hh8 hrd2 hrd4 hn4 hc4 hy1 hy2 hz1 hz2 hlM hM hn2 hc2 hK hz
      go_enter Tryz.func77,Tryz.ntmps77
      go_wp2
      go_region_held3 (fun w'=>True) (exact trivial) (first
       |(go_at_call 112;refine(HFA.out w.drew (Kp.refl [] w).drew).mono ?_;rintro e w1 ⟨rfl,k1⟩;have HK1:=As.mk k1;clear k1)
       |(go_at_call 82;refine(HSA.out _ HK1.out).mono ?_;rintro e w2 ⟨rfl,k2⟩;have HK2:=As.mk k2;clear k2))
      have HFB1:=As.mk (HFB.out w2 HK2.out)
      clear HFA HSA HFB
      go_wp2_with (go_at_call 112;refine HFB1.out.mono ?_;rintro e w3 ⟨rfl,k3⟩;have HK3:=As.mk k3;clear k3 HFB1)
      go_region_held3 (fun w'=>True) (exact trivial) (first
       |(go_at_call 112;refine(HF2.out w3.drew HK3.out.drew).mono ?_;rintro e w4 ⟨rfl,k4⟩;have HK4:=As.mk k4;clear k4)
       |(go_at_call 82;refine(HSM.out _ HK4.out).mono ?_;rintro e w5 ⟨rfl,k5⟩;have HK5:=As.mk k5;clear k5))
      clear HF2 HSM
      go_wp2
      go_ret3
      exact fdec_none HE.out HK5.out
  ·have HE:As (fDec xs=([],0,4)):=⟨by rw[fDec,if_neg (by omega),if_pos (fun h=>hh (by rw[<-hy1,<-hy2];exact(head_iff hw (by omega)).1 h))]⟩
   have hyb:(y1 !=y2)=true:=by simpa using hh
   clear hr hw hn hN hrd4 hn4 hc4 hy1 hy2 hh
   go_enter Tryz.func77,Tryz.ntmps77
   go_wp2
   go_region_held3 (fun w'=>True) (exact trivial) (first
    |(go_at_call 112;refine(HFA.out w.drew (Kp.refl [] w).drew).mono ?_;rintro e w1 ⟨rfl,k1⟩;have HK1:=As.mk k1;clear k1)
    |(go_at_call 82;refine(HSA.out _ HK1.out).mono ?_;rintro e w2 ⟨rfl,k2⟩;have HK2:=As.mk k2;clear k2))
   go_wp2
   go_ret3
   exact fdec_none HE.out HK2.out
end Go.Proofs.YtdiljpdohmeceaaGreat.ref8
namespace Go.Proofs.YtdiljpdohmeceaaGreat.ref8
open Go.RowKit H O joins frame
theorem one_any(A:Option Addr)(n c:Nat)(xs:List Int)(w:World)(hn:xs.length=n)(hr:Rd w A (iv .u8 xs))(hc:n<=c)(hw:Wf xs)(hm:n<=140737488351232):
 Calls Tryz.prog 33 #[.slice A n c] w (FOne xs w):=by
 have HD:=dec_any A n c xs w hn hr hc hw hm
 unfold FDec at HD
 obtain⟨e,he⟩:∃e,(fDec xs).2.2=e:=⟨_,rfl⟩
 obtain⟨k,hk⟩:∃k,(fDec xs).2.1=k:=⟨_,rfl⟩
 rw[he,hk] at HD
 have HD:=As.mk HD
 by_cases h0:e=0
 ·subst h0
  by_cases h1:k=n
  ·subst h1
   have HE:As (fOne xs=((fDec xs).1,0)):=⟨by rw[fOne,if_neg (by rw[hk];omega),he]⟩
   clear hr hw hn he hk
   go_enter Tryz.func33,Tryz.ntmps33
   go_wp2_with (go_at_call 77;refine HD.out.mono ?_;rintro e w1 ⟨v,rfl,o1,k1⟩;have HO:=As.mk o1;have HK:=As.mk k1;clear o1 k1)
   go_ret2
   refine⟨v,by rw[HE.out];rfl, ?_,HK.out⟩
   rw[HE.out]
   exact HO.out
  ·have HE:As (fOne xs=([],3)):=⟨by rw[fOne,if_pos ⟨he,by rw[hk];omega⟩]⟩
   have hkn:((k:Int) !=(n:Int))=true:=by simp;omega
   clear hr hw hn he hk
   go_enter Tryz.func33,Tryz.ntmps33
   go_wp2_with (go_at_call 77;refine HD.out.mono ?_;rintro e w1 ⟨v,rfl,o1,k1⟩;have HK:=As.mk k1;clear o1 k1)
   go_ret2
   refine⟨_,by rw[HE.out];rfl, ?_,HK.out⟩
   rw[HE.out]
   exact Own.nil _ _ _ _
 ·have HE:As (fOne xs=([],e)):=⟨by rw[fOne,if_neg (by rw[he];omega),he,fDec_err (by rw[he];exact h0)]⟩
  have h0b:(e==0)=false:=by simpa using h0
  have h0c:(e !=0)=true:=by simpa using h0
  clear hr hw hn he hk
  go_enter Tryz.func33,Tryz.ntmps33
  go_wp2_with (go_at_call 77;refine HD.out.mono ?_;rintro e w1 ⟨v,rfl,o1,k1⟩;have HK:=As.mk k1;clear o1 k1)
  go_ret2
  refine⟨_,by rw[HE.out];rfl, ?_,HK.out⟩
  rw[HE.out]
  exact Own.nil _ _ _ _
end Go.Proofs.YtdiljpdohmeceaaGreat.ref8
namespace Go.Proofs.YtdiljpdohmeceaaGreat.wir
open Go.RowKit H O opk frame
theorem read_err(A:Option Addr)(n c:Nat)(xs:List Int)(mark most:Int)(T:Value)(er:Int)(w:World)(hn:xs.length=n)(hr:Rd w A (iv .u8 xs))(hc:n<=c)(hw:Wf xs)(hm:n<=140737488351232)(he:(fOne xs).2=er)(h0:er≠0):
 Calls Tryz.prog 83 #[.slice A n c,.int .u8 mark,.int .i64 most,T] w fun e w'=>e= .returned (.tuple #[.slice none 0 0,.int .i64 er])/\Kp [] w w':=by
 have H1:As (Calls Tryz.prog 113 #[.slice A n c] w fun e w'=>∃A1 n1 c1,e= .returned (.tuple #[.slice A1 n1 c1,.int .i64 er])/\Kp [] w w'):=⟨by
  refine(one_any A n c xs w hn hr hc hw hm).mono ?_
  rintro e w' ⟨v,rfl,o,k⟩
  obtain⟨A1,c1,rfl,_⟩:=own_rd o.1
  rw[he]
  exact⟨A1,_,c1,rfl,k⟩⟩
 have bne:(er==0)=false:=by simpa using h0
 clear hn hr hc hw hm he h0
 go_enter Tryz.func83,Tryz.ntmps83
 go_wp2_with (go_at_call 113;refine H1.out.mono ?_;rintro e w1 ⟨A1,n1,c1,rfl,k1⟩;have HK1:=As.mk k1;clear k1 H1)
 go_ret2
 exact⟨rfl,HK1.out⟩
theorem read_mark(A:Option Addr)(n c:Nat)(xs:List Int)(mark most:Int)(T:Value)(mk:Int)(r:List Int)(w:World)(hn:xs.length=n)(hr:Rd w A (iv .u8 xs))(hc:n<=c)(hw:Wf xs)(hm:n<=140737488351232)(he:fOne xs=(mk::r,0))(hp:Wf (mk::r))(hl:(mk::r).length<=1100000)(h0:mk≠mark):
 Calls Tryz.prog 83 #[.slice A n c,.int .u8 mark,.int .i64 most,T] w fun e w'=>e= .returned (.tuple #[.slice none 0 0,.int .i64 3])/\Kp [] w w':=by
 obtain⟨N,hN⟩:∃N,(mk::r).length=N:=⟨_,rfl⟩
 rw[hN] at hl
 have H1:As (Calls Tryz.prog 113 #[.slice A n c] w fun e w'=>∃A1 c1,e= .returned (.tuple #[.slice A1 N c1,.int .i64 0])/\Rd w' A1 (iv .u8 (mk::r))/\(A1=none->c1=0)/\Kp [] w w'):=⟨by
  refine(one_any A n c xs w hn hr hc hw hm).mono ?_
  rintro e w' ⟨v,rfl,o,k⟩
  rw[he] at o⊢
  obtain⟨A1,c1,rfl,_,_,r1,n1⟩:=own_rd o.1
  rw[hN]
  exact⟨A1,c1,rfl,r1,n1,k⟩⟩
 have H2:As (∀wX A1 c1,Rd wX A1 (iv .u8 (mk::r))->(A1=none->c1=0)->Calls Tryz.prog 86 #[.slice A1 N c1] wX (reader.NewRdr (mk::r) wX)):=⟨fun wX A1 c1 r1 n1=>reader.new_any A1 N c1 (mk::r) wX hN r1 n1 (by omega) hp⟩
 have H3:As (∀wX b g,reader.Rdr wX b g (some (mk::r))->Calls Tryz.prog 114 #[.pointer (some ⟨b,0,none⟩),.int .i64 1] wX fun e w'=>∃gv c1,e= .returned (.slice (some ⟨gv,0,none⟩) 1 c1)/\w'.cell? ⟨gv,0,none⟩=some (.int .u8 mk)/\Kp [b] wX w'):=⟨fun wX b g h=>by
  have hst:O.stRaw 1 (some (mk::r))=([mk],some r):=by
   rw[O.stRaw]
   rw[if_neg (by simp only[List.length_cons];omega)]
   rfl
  have:=reader.raw_any b g (some (mk::r)) 1 wX h (by simp only[left,Option.getD_some];omega)
  rw[hst] at this
  refine this.mono ?_
  rintro e w' ⟨v,rfl,o,g',_,_,k⟩
  obtain⟨gv,cp,rfl,_⟩:=own_form o.1 (by simp)
  refine⟨gv,cp,rfl, ?_,k⟩
  have:=o.1.cellAt 0 (by simp)
  rw[show(iv .u8 [mk])[0]?=some (.int .u8 mk) from rfl] at this
  simpa using this⟩
 have bmk:(mk==mark)=false:=by simpa using h0
 clear hN hn hr hc hw hm he hp h0
 go_enter Tryz.func83,Tryz.ntmps83
 go_wp2_with (first
  |(go_at_call 113;refine H1.out.mono ?_;rintro e w1 ⟨A1,c1,rfl,r1,n1,k1⟩;have HK1:=As.mk k1;have HN1:=As.mk (H2.out w1 A1 c1 r1 n1);clear k1 r1 n1 H1 H2)
  |(go_at_call 86;refine HN1.out.mono ?_;rintro e w2 ⟨b,g,rfl,R,hb,_,k2⟩;have HB:=As.mk (Nat.le_trans HK1.out.size hb);have HK2:As (Kp [] w w2):=⟨HK1.out.trans k2 (by simp)⟩;have HRA:=As.mk (H3.out w2 b g R);clear R hb k2 HN1 H3)
  |(go_at_call 114;refine HRA.out.mono ?_;rintro e w3 ⟨gv,c3,rfl,d3,k3⟩;have HK3:As (Kp [] w w3):=⟨HK2.out.trans k3 (by intro x hx;simp at hx;subst hx;exact .inr HB.out)⟩;clear k3 HRA))
 go_ret2
 exact⟨rfl,HK3.out⟩
end Go.Proofs.YtdiljpdohmeceaaGreat.wir
namespace Go.Proofs.YtdiljpdohmeceaaGreat.co
open Go.RowKit H O opk frame wir
def rd3(mark:Int)(most:Nat)(xs:List Int):List Int×List Int×Int:=
 if(fOne xs).2≠0 then([],[],(fOne xs).2)
 else if(stRaw 1 (some (fOne xs).1)).1≠[mark] then([],[],3)
 else if(stBytes (stNums 3 (stRaw 1 (some (fOne xs).1)).2).2).2=some []/\(stBytes (stNums 3 (stRaw 1 (some (fOne xs).1)).2).2).1.length<=most then
  ((stNums 3 (stRaw 1 (some (fOne xs).1)).2).1,(stBytes (stNums 3 (stRaw 1 (some (fOne xs).1)).2).2).1,0)
 else([],[],3)
structure WRep where
 ctx:Int
 err:Int
 hint:Int
 data:List Int
def wrOk(ctx err hint:Int):Bool:=decide (0<=ctx/\ctx<=1099511627776)&&decide (0<=err/\err<=100)&&decide (-1<=hint/\hint<=255)
def dWRep(xs:List Int):WRep×Int:=
 if(rd3 114 524288 xs).2.2≠0 then(⟨0,0,0,[]⟩,(rd3 114 524288 xs).2.2)
 else if wrOk ((rd3 114 524288 xs).1.getD 0 0) ((rd3 114 524288 xs).1.getD 1 0) ((rd3 114 524288 xs).1.getD 2 0-1)=true then
  (⟨(rd3 114 524288 xs).1.getD 0 0,(rd3 114 524288 xs).1.getD 1 0,(rd3 114 524288 xs).1.getD 2 0-1,(rd3 114 524288 xs).2.1⟩,0)
 else(⟨0,0,0,[]⟩,3)
def mLe(a b:ByteArray×Int):Bool:=decide (kb a.1<kb b.1)||(decide (kb a.1=kb b.1)&&decide (a.2<=b.2))
def sortM(l:List (ByteArray×Int)):List (ByteArray×Int):=l.mergeSort mLe
structure Took where
 was:Bool
 has:Bool
 text:List Int
 ms:List (ByteArray×Int)
 err:Int
def tookW(del:Bool)(data:List Int):Took:=
 if(dRep data).2.2≠0 then⟨false,false,[],[],3⟩
 else if(dRep data).1=7 then⟨false,false,[],[],0⟩
 else if(dRep data).1=0 then⟨del||decide ((dRep data).2.1.head?=some 1),false,[],[],0⟩
 else⟨false,false,[],[],(dRep data).1⟩
def tookG(data:List Int):Took:=
 if(stNum (some data)).1=1 then
  (if(stBytes (stNum (some data)).2).2=some [] then⟨false,true,(stBytes (stNum (some data)).2).1,[],0⟩ else⟨false,false,[],[],3⟩)
 else if(stNum (some data)).1=0/\(stNum (some data)).2=some [] then⟨false,false,[],[],0⟩
 else⟨false,false,[],[],3⟩
def tookF(data:List Int):Took:=if(dMs data).2=0 then⟨false,false,[],(dMs data).1,0⟩ else⟨false,false,[],[],3⟩
def took(j:Job)(data:List Int):Took:=if j.kind=1 then tookW false data else if j.kind=2 then tookW true data else if j.kind=3 then tookG data else tookF data
def askIx(az:List Ask)(ctx:Int):Option Nat:=az.findIdx? fun a=> !a.answered&&decide ((a.ctx:Int)=ctx)
def nodeIx(cf:Cfg)(sh:Nat)(n:Int):Option Nat:=(cf.shards.getD sh []).findIdx? fun x=>decide (x=n)
def hear(cf:Cfg)(s:Cs)(m:Msg):Cs×List Msg:=
 if m.dst≠(cf.id:Int)\/m.frm<0\/7<=m.frm then(s,[])
 else match s.jobs with
 |[]=>(s,[])
 |j::_=>
  if(dWRep m.data).2≠0 then(s,[])
  else match askIx s.asks (dWRep m.data).1.ctx with
  |none=>(s,[])
  |some i=>match s.asks[i]? with
   |none=>(s,[])
   |some a=>
    if(dWRep m.data).1.err=0 then
     (if(took j (dWRep m.data).1.data).err≠0 then(endErr s (took j (dWRep m.data).1.data).err,[])
      else if(s.asks.set i {a with answered:=true,ms:=(took j (dWRep m.data).1.data).ms}).all (·.answered)=true then
       (endJob s ⟨s.ended,0,(took j (dWRep m.data).1.data).was,(took j (dWRep m.data).1.data).has,(took j (dWRep m.data).1.data).text,sortM ((s.asks.set i {a with answered:=true,ms:=(took j (dWRep m.data).1.data).ms}).flatMap (·.ms))⟩,[])
      else({s with asks:=s.asks.set i {a with answered:=true,ms:=(took j (dWRep m.data).1.data).ms}},[]))
    else if(dWRep m.data).1.err=11 then
     match nodeIx cf a.shard (dWRep m.data).1.hint with
     |none=>(s,[])
     |some at_=>
      if(dWRep m.data).1.hint=m.frm\/a.hinted=true then(s,[])
      else({s with whom:=s.whom.set a.shard at_,asks:=s.asks.set i {a with hinted:=true,waited:=0}},[msgOf cf (s.whom.set a.shard at_) a])
    else if(dWRep m.data).1.err=12\/(dWRep m.data).1.err=14\/(dWRep m.data).1.err=9\/(dWRep m.data).1.err=7 then(s,[])
    else(endErr s (dWRep m.data).1.err,[])
end Go.Proofs.YtdiljpdohmeceaaGreat.co
namespace Go.Proofs.YtdiljpdohmeceaaGreat.wir
open Go.RowKit H O opk frame co reader
theorem putAll_congr{w v:World}(N:Nat)(h:∀k,k<N->w.heap[k]?=v.heap[k]?):∀(l:List (Option Addr×Int)) (k:Nat),k<N->(putAll w l).heap[k]?=(putAll v l).heap[k]?:=by
 intro l
 induction l generalizing w v with
 |nil=>exact h
 |cons x l ih=>
  intro k hk
  rw[putAll,putAll]
  refine ih (fun j hj=> ?_) k hk
  cases x.1 with
  |none=>exact h j hj
  |some a=>simp only[put1,World.setCell,Array.getElem?_modify,h j hj]
theorem stNum_bd(s:Option (List Int)):(stNum s).1<=4611686018427387904:=by
 cases h:dec (left s) with
 |none=>rw[stNum_none h];exact Nat.zero_le _
 |some p=>
  obtain⟨v,r⟩:=p
  rw[stNum_some h]
  exact dec_bd h
theorem stNums_bd:∀(k:Nat) (s:Option (List Int)),∀x∈(stNums k s).1,0<=x/\x<=4611686018427387904
 |0,s,x,hx=>by simp[stNums] at hx
 |k+1,s,x,hx=>by
  simp only[stNums,List.mem_cons] at hx
  rcases hx with rfl|hx
  ·have:=stNum_bd s
   omega
  ·exact stNums_bd k _ x hx
def RdP(r:List Int×List Int×Int)(ps:List (Option Addr))(w:World)(e:Ending)(w':World):Prop:=
 ∃D vs,e= .returned (.tuple #[D,.int .i64 r.2.2])/\Own 5 .u8 w' w.heap.size D r.2.1/\vs.length<=3/\(∀x∈vs,0<=x/\x<=4611686018427387904)/\(r.2.2=0->vs=r.1)/\w'.os=w.os/\w'.tape=w.tape/\w'.output=w.output/\w.heap.size<=w'.heap.size/\
  ∀k,k<w.heap.size->w'.heap[k]?=(putAll w (ps.zip vs)).heap[k]?
theorem RdP.kp0{er:Int}{ps:List (Option Addr)}{w w':World}(h0:er≠0)(k:Kp [] w w'):RdP ([],[],er) ps w (.returned (.tuple #[.slice none 0 0,.int .i64 er])) w':=
 ⟨_,[],rfl,Own.nil _ _ _ _,by simp,by simp,fun e=>absurd e h0,k.os,k.tape,k.output,k.size,fun j hj=>by rw[List.zip_nil_right];exact k.block j hj (by simp)⟩
theorem read_empty(A:Option Addr)(n c:Nat)(xs:List Int)(mark most:Int)(T:Value)(w:World)(hn:xs.length=n)(hr:Rd w A (iv .u8 xs))(hc:n<=c)(hw:Wf xs)(hm:n<=140737488351232)(he:fOne xs=([],0)):
 Calls Tryz.prog 83 #[.slice A n c,.int .u8 mark,.int .i64 most,T] w fun e w'=>e= .returned (.tuple #[.slice none 0 0,.int .i64 3])/\Kp [] w w':=by
 have H1:As (Calls Tryz.prog 113 #[.slice A n c] w fun e w'=>∃A1 c1,e= .returned (.tuple #[.slice A1 0 c1,.int .i64 0])/\(A1=none->c1=0)/\Kp [] w w'):=⟨by
  refine(one_any A n c xs w hn hr hc hw hm).mono ?_
  rintro e w' ⟨v,rfl,o,k⟩
  rw[he] at o⊢
  obtain⟨A1,c1,rfl,_,_,r1,n1⟩:=own_rd o.1
  exact⟨A1,c1,rfl,n1,k⟩⟩
 have H2:As (∀wX A1 c1,(A1=none->c1=0)->Calls Tryz.prog 86 #[.slice A1 0 c1] wX (reader.NewRdr [] wX)):=⟨fun wX A1 c1 n1=>reader.new_any A1 0 c1 [] wX rfl (Rd.nil _ _) n1 (by omega) Wf.nil⟩
 have H3:As (∀wX b g,reader.Rdr wX b g (some [])->Calls Tryz.prog 114 #[.pointer (some ⟨b,0,none⟩),.int .i64 1] wX fun e w'=>∃A1 c1,e= .returned (.slice A1 0 c1)/\Kp [b] wX w'):=⟨fun wX b g h=>by
  have hst:O.stRaw 1 (some [])=([],none):=rfl
  have:=reader.raw_any b g (some []) 1 wX h (by simp[left])
  rw[hst] at this
  refine this.mono ?_
  rintro e w' ⟨v,rfl,o,g',_,_,k⟩
  obtain⟨A1,c1,rfl,_⟩:=own_rd o.1
  exact⟨A1,c1,rfl,k⟩⟩
 clear hn hr hc hw hm he
 go_enter Tryz.func83,Tryz.ntmps83
 go_wp2_with (first
  |(go_at_call 113;refine H1.out.mono ?_;rintro e w1 ⟨A1,c1,rfl,n1,k1⟩;have HK1:=As.mk k1;have HN1:=As.mk (H2.out w1 A1 c1 n1);clear k1 n1 H1 H2)
  |(go_at_call 86;refine HN1.out.mono ?_;rintro e w2 ⟨b,g,rfl,R,hb,_,k2⟩;have HB:=As.mk (Nat.le_trans HK1.out.size hb);have HK2:As (Kp [] w w2):=⟨HK1.out.trans k2 (by simp)⟩;have HRA:=As.mk (H3.out w2 b g R);clear R hb k2 HN1 H3)
  |(go_at_call 114;refine HRA.out.mono ?_;rintro e w3 ⟨A3,c3,rfl,k3⟩;have HK3:As (Kp [] w w3):=⟨HK2.out.trans k3 (by intro x hx;simp at hx;subst hx;exact .inr HB.out)⟩;clear k3 HRA))
 go_ret2
 exact⟨rfl,HK3.out⟩
theorem read_good(A:Option Addr)(n c:Nat)(xs:List Int)(mark most:Int)(B:Nat)(ps:List (Option Addr))(r:List Int)(w:World)(hn:xs.length=n)(hr:Rd w A (iv .u8 xs))(hc:n<=c)(hw:Wf xs)(hm:n<=140737488351232)(he:fOne xs=(mark::r,0))(hp:Wf (mark::r))(hl:(mark::r).length<=1100000)
 (hps:ps.length=3) (hB:Rd w (some ⟨B,0,none⟩) (ps.map Value.pointer)) (hq:∀p∈ps,∀q,p=some q->q.block≠B/\IsInt w q):
 Calls Tryz.prog 83 #[.slice A n c,.int .u8 mark,.int .i64 most,.slice (some ⟨B,0,none⟩) 3 3] w (RdP (if(stBytes (stNums 3 (some r)).2).2=some []/\((stBytes (stNums 3 (some r)).2).1.length:Int)<=most then((stNums 3 (some r)).1,(stBytes (stNums 3 (some r)).2).1,0) else([],[],3)) ps w):=by
 obtain⟨N,hN⟩:∃N,(mark::r).length=N:=⟨_,rfl⟩
 rw[hN] at hl
 have hrl:r.length<=1100000:=by simp at hN;omega
 have hBl:B<w.heap.size:=by
  obtain⟨a,ha,hlt⟩:=hB.lt (by simp[hps])
  cases ha
  exact hlt
 obtain⟨s1,hs1⟩:∃s,(stNums 3 (some r)).2=s:=⟨_,rfl⟩
 have hs1l:(left s1).length<=1100000:=by rw[<-hs1];exact stNums_left (by simpa [left] using hrl)
 obtain⟨dat,hdat⟩:∃s,(stBytes s1).1=s:=⟨_,rfl⟩
 obtain⟨s2,hs2⟩:∃s,(stBytes s1).2=s:=⟨_,rfl⟩
 obtain⟨vs,hvs⟩:∃s,(stNums 3 (some r)).1=s:=⟨_,rfl⟩
 have hvl:vs.length=3:=by rw[<-hvs];exact stNums_len 3 _
 have HVB:As (∀x∈vs,0<=x/\x<=4611686018427387904):=⟨by rw[<-hvs];exact stNums_bd 3 _⟩
 obtain⟨DL,hDL⟩:∃s,dat.length=s:=⟨_,rfl⟩
 obtain⟨wh,hwh⟩:∃s,whole s2=s:=⟨_,rfl⟩
 rw[hs1,hdat,hs2,hvs]
 have H1:As (Calls Tryz.prog 113 #[.slice A n c] w fun e w'=>∃A1 c1,e= .returned (.tuple #[.slice A1 N c1,.int .i64 0])/\Rd w' A1 (iv .u8 (mark::r))/\(A1=none->c1=0)/\Kp [] w w'):=⟨by
  refine(one_any A n c xs w hn hr hc hw hm).mono ?_
  rintro e w' ⟨v,rfl,o,k⟩
  rw[he] at o⊢
  obtain⟨A1,c1,rfl,_,_,r1,n1⟩:=own_rd o.1
  rw[hN]
  exact⟨A1,c1,rfl,r1,n1,k⟩⟩
 have H2:As (∀wX A1 c1,Rd wX A1 (iv .u8 (mark::r))->(A1=none->c1=0)->Calls Tryz.prog 86 #[.slice A1 N c1] wX (reader.NewRdr (mark::r) wX)):=⟨fun wX A1 c1 r1 n1=>reader.new_any A1 N c1 (mark::r) wX hN r1 n1 (by omega) hp⟩
 have H3:As (∀wX b g,reader.Rdr wX b g (some (mark::r))->Calls Tryz.prog 114 #[.pointer (some ⟨b,0,none⟩),.int .i64 1] wX fun e w'=>∃gv c1,e= .returned (.slice (some ⟨gv,0,none⟩) 1 c1)/\w'.cell? ⟨gv,0,none⟩=some (.int .u8 mark)/\As (∃g',Rdr w' b g' (some r)/\(g'=g\/g'=none))/\Kp [b] wX w'):=⟨fun wX b g h=>by
  have hst:O.stRaw 1 (some (mark::r))=([mark],some r):=by
   rw[O.stRaw]
   rw[if_neg (by simp only[List.length_cons];omega)]
   rfl
  have:=reader.raw_any b g (some (mark::r)) 1 wX h (by simp only[left,Option.getD_some];omega)
  rw[hst] at this
  refine this.mono ?_
  rintro e w' ⟨v,rfl,o,g',R,G,k⟩
  obtain⟨gv,cp,rfl,_⟩:=own_form o.1 (by simp)
  refine⟨gv,cp,rfl, ?_,⟨g',R,G⟩,k⟩
  have:=o.1.cellAt 0 (by simp)
  rw[show(iv .u8 [mark])[0]?=some (.int .u8 mark) from rfl] at this
  simpa using this⟩
 have H4:As (∀wX b g,Kp [] w wX\/Kp [b] w wX->w.heap.size<=b->(∀x,g=some x->w.heap.size<=x)->Rdr wX b g (some r)->Calls Tryz.prog 115 #[.pointer (some ⟨b,0,none⟩),.slice (some ⟨B,0,none⟩) 3 3] wX fun e w'=>e= .returned (.tuple #[])/\As ((∃g',Rdr w' b g' s1)/\w'.os=wX.os/\w'.tape=wX.tape/\w'.output=wX.output/\wX.heap.size<=w'.heap.size/\∀k,k<wX.heap.size->k≠b->w'.heap[k]?=(putAll wX (ps.zip vs)).heap[k]?)):=⟨fun wX b g k hb hg R=>by
  have k:Kp [b] w wX:=by
   rcases k with k|k
   ·exact k.mono (by simp)
   ·exact k
  have hblk:∀j,j<w.heap.size->wX.heap[j]?=w.heap[j]?:=fun j hj=>k.block j hj (by simp;omega)
  refine(reader.nums_any b g (some r) (some ⟨B,0,none⟩) 3 3 ps wX R (by simpa [left] using (by omega:r.length<=140737488351232)) hps (by omega) (k.rd hB (fun a ha=>by cases ha;simp;omega)) (fun a ha=> ?_) (fun p hp q hpq=> ?_)).mono ?_
  ·cases ha
   exact⟨by show B≠b;omega,fun p hp q hpq=>(hq p hp q hpq).1⟩
  ·have h1:=(hq p hp q hpq).2
   have h2:=h1.lt
   refine⟨by omega,fun e=>by have:=hg _ e;omega,isInt_of_block h1 (hblk _ h2)⟩
  ·rintro e w' ⟨rfl,⟨g',R',_⟩,p1,p2,p3,p4,p5⟩
   rw[hps] at R' p5
   rw[hs1] at R'
   rw[hvs] at p5
   exact⟨rfl,⟨⟨g',R'⟩,p1,p2,p3,p4,p5⟩⟩⟩
 have H5:As (∀wX b g,Rdr wX b g s1->Calls Tryz.prog 88 #[.pointer (some ⟨b,0,none⟩)] wX fun e w'=>∃A5 c5,e= .returned (.slice A5 DL c5)/\As (Own 5 .u8 w' wX.heap.size (.slice A5 DL c5) dat/\(∃g',Rdr w' b g' s2)/\Kp [b] wX w')):=⟨fun wX b g R=>by
  refine(reader.bytes_any b g s1 wX R (by omega)).mono ?_
  rintro e w' ⟨v,rfl,o,g',R',_,k⟩
  rw[hdat] at o
  rw[hs2] at R'
  obtain⟨A5,c5,rfl,_⟩:=own_rd o.1
  rw[hDL] at o⊢
  exact⟨A5,c5,rfl,⟨o,⟨g',R'⟩,k⟩⟩⟩
 have H6:As (∀wX b g,Rdr wX b g s2->Calls Tryz.prog 90 #[.pointer (some ⟨b,0,none⟩)] wX fun e w'=>e= .returned (.bool wh)/\w'=wX):=⟨fun wX b g R=>by rw[<-hwh];exact reader.whole_any b g s2 wX R⟩
 have bmk:(mark==mark)=true:=by simp
 have HDL:=As.mk hDL
 have HVL:=As.mk hvl
 have HS2:As (wh=true↔s2=some []):=⟨by rw[<-hwh];simp[whole]⟩
 obtain⟨R,hR⟩:∃R,(if s2=some []/\(dat.length:Int)<=most then(vs,dat,(0:Int)) else([],[],3))=R:=⟨_,rfl⟩
 have HR0:As (wh=true->(DL:Int)<=most->R=(vs,dat,0)):=⟨fun h1 h2=>by rw[<-hR,if_pos ⟨HS2.out.1 h1,by rw[hDL];exact h2⟩]⟩
 have HR3:As (¬(wh=true/\(DL:Int)<=most)->R=([],[],3)):=⟨fun h=>by rw[<-hR,if_neg (fun e=>h ⟨HS2.out.2 e.1,by rw[<-hDL];exact e.2⟩)]⟩
 rw[hR]
 have HWH:=As.mk hwh
 have FIN:As (∀b w3 w4 w5,Kp [b] w w3->w.heap.size<=b->w4.os=w3.os/\w4.tape=w3.tape/\w4.output=w3.output/\w3.heap.size<=w4.heap.size/\(∀k,k<w3.heap.size->k≠b->w4.heap[k]?=(putAll w3 (ps.zip vs)).heap[k]?)->Kp [b] w4 w5->
  w5.os=w.os/\w5.tape=w.tape/\w5.output=w.output/\w.heap.size<=w5.heap.size/\∀k,k<w.heap.size->w5.heap[k]?=(putAll w (ps.zip vs)).heap[k]?):=⟨fun b w3 w4 w5 k3 hb h4 k5=>by
  obtain⟨p1,p2,p3,p4,p5⟩:=h4
  have z3:=k3.size
  have z5:=k5.size
  refine⟨k5.os.trans (p1.trans k3.os),k5.tape.trans (p2.trans k3.tape),k5.output.trans (p3.trans k3.output),by omega,fun k hk=> ?_⟩
  rw[k5.block k (by omega) (by simp;omega),p5 k (by omega) (by omega)]
  exact putAll_congr w.heap.size (fun j hj=>k3.block j hj (by simp;omega)) _ k hk⟩
 clear hN hn hr hc hw hm he hp hl hps hB hq hs1 hdat hs2 hvs hDL hwh hvl HWH HS2 hR hs1l hrl hBl
 go_enter Tryz.func83,Tryz.ntmps83
 by_cases hmo:(DL:Int)<=most<;>cases wh
 all_goals go_wp2_with (first
  |(go_at_call 113;refine H1.out.mono ?_;rintro e w1 ⟨A1,c1,rfl,r1,n1,k1⟩;have HK1:=As.mk k1;have HN1:=As.mk (H2.out w1 A1 c1 r1 n1);clear k1 r1 n1 H1 H2)
  |(go_at_call 86;refine HN1.out.mono ?_;rintro e w2 ⟨b,g,rfl,R2,hb,hg,k2⟩;have HB:=As.mk (show w.heap.size<=b/\∀x,g=some x->w.heap.size<=x from⟨Nat.le_trans HK1.out.size hb,fun x hx=>Nat.le_trans HK1.out.size (hg x hx).1⟩);have HK2:As (Kp [] w w2):=⟨HK1.out.trans k2 (by simp)⟩;have HRA:=As.mk (H3.out w2 b g R2);clear R2 hb hg k2 HN1 H3)
  |(go_at_call 114;refine HRA.out.mono ?_;rintro e w3 ⟨gv,c3,rfl,d3,HR3',k3⟩;have HK3:As (Kp [b] w w3):=⟨(HK2.out.mono (by simp)).trans k3 (fun x hx=> .inl hx)⟩;have HNU:As (Calls Tryz.prog 115 #[.pointer (some ⟨b,0,none⟩),.slice (some ⟨B,0,none⟩) 3 3] w3 fun e w'=>e= .returned (.tuple #[])/\As ((∃g',Rdr w' b g' s1)/\w'.os=w3.os/\w'.tape=w3.tape/\w'.output=w3.output/\w3.heap.size<=w'.heap.size/\∀k,k<w3.heap.size->k≠b->w'.heap[k]?=(putAll w3 (ps.zip vs)).heap[k]?)):=⟨HR3'.out.elim (fun g' h=>H4.out w3 b g' (.inr HK3.out) HB.out.1 (fun x hx=>h.2.elim (fun e=>HB.out.2 x (by rw[<-e];exact hx)) (fun e=>by rw[e] at hx;cases hx)) h.1)⟩;clear k3 HRA H4 HR3')
  |(go_at_call 115;refine HNU.out.mono ?_;rintro e w4 ⟨rfl,HN4⟩;have HBY:As (Calls Tryz.prog 88 #[.pointer (some ⟨b,0,none⟩)] w4 fun e w'=>∃A5 c5,e= .returned (.slice A5 DL c5)/\As (Own 5 .u8 w' w4.heap.size (.slice A5 DL c5) dat/\(∃g',Rdr w' b g' s2)/\Kp [b] w4 w')):=⟨HN4.out.1.elim (fun g' h=>H5.out w4 b g' h)⟩;clear HNU H5 d3)
  |(go_at_call 88;refine HBY.out.mono ?_;rintro e w5 ⟨A5,c5,rfl,HO5⟩;have HWO:As (∀wX,wX=w5->Calls Tryz.prog 90 #[.pointer (some ⟨b,0,none⟩)] wX fun e w'=>e= .returned (.bool _)/\w'=wX):=⟨fun wX e=>by subst e;exact HO5.out.2.1.elim (fun g' h=>H6.out _ b g' h)⟩;clear HBY H6)
  |(go_at_call 90;refine(HWO.out _ rfl).mono ?_;rintro e w6 ⟨rfl,rfl⟩;clear HWO))
 ·have F:=FIN.out b w3 w4 _ HK3.out HB.out.1 HN4.out.2 HO5.out.2.2
  go_ret2
  rw[HR3.out (by simp)]
  exact⟨_,vs,rfl,Own.nil _ _ _ _,by rw[HVL.out];omega,HVB.out,(fun e=>by cases e),F⟩
 ·have F:=FIN.out b w3 w4 _ HK3.out HB.out.1 HN4.out.2 HO5.out.2.2
  go_ret2
  rw[HR0.out (by simp) hmo]
  exact⟨_,vs,rfl,HO5.out.1.lower (by have:=HK3.out.size;have:=HN4.out.2.2.2.2.1;omega),by rw[HVL.out];omega,HVB.out,fun _=>rfl,F⟩
 ·have F:=FIN.out b w3 w4 _ HK3.out HB.out.1 HN4.out.2 HO5.out.2.2
  go_ret2
  rw[HR3.out (by simp)]
  exact⟨_,vs,rfl,Own.nil _ _ _ _,by rw[HVL.out];omega,HVB.out,(fun e=>by cases e),F⟩
 ·have F:=FIN.out b w3 w4 _ HK3.out HB.out.1 HN4.out.2 HO5.out.2.2
  go_ret2
  rw[HR3.out (fun e=>by omega)]
  exact⟨_,vs,rfl,Own.nil _ _ _ _,by rw[HVL.out];omega,HVB.out,(fun e=>by cases e),F⟩
theorem fDec_small{b:List Int}:(fDec b).1.length<=1048576:=by
 unfold fDec
 split
 ·simp
 ·split
  ·simp
  ·split
   ·simp
   ·split
    ·simp
    ·split
     ·simp
     ·simp only[List.length_drop,List.length_take]
      omega
theorem fOne_small{b:List Int}:(fOne b).1.length<=1048576:=by
 unfold fOne
 split
 ·simp
 ·exact fDec_small
theorem fOne_wf{b:List Int}(h:Wf b):Wf (fOne b).1:=by
 unfold fOne
 split
 ·exact Wf.nil
 ·exact fDec_wf h
theorem read_any(A:Option Addr)(n c:Nat)(xs:List Int)(mark:Int)(most:Nat)(B:Nat)(ps:List (Option Addr))(w:World)(hn:xs.length=n)(hr:Rd w A (iv .u8 xs))(hc:n<=c)(hw:Wf xs)(hm:n<=140737488351232)
 (hps:ps.length=3) (hB:Rd w (some ⟨B,0,none⟩) (ps.map Value.pointer)) (hq:∀p∈ps,∀q,p=some q->q.block≠B/\IsInt w q):
 Calls Tryz.prog 83 #[.slice A n c,.int .u8 mark,.int .i64 most,.slice (some ⟨B,0,none⟩) 3 3] w (RdP (rd3 mark most xs) ps w):=by
 by_cases h0:(fOne xs).2≠0
 ·rw[rd3,if_pos h0]
  refine(read_err A n c xs mark most _ (fOne xs).2 w hn hr hc hw hm rfl h0).mono ?_
  rintro e w' ⟨rfl,k⟩
  exact RdP.kp0 h0 k
 ·have h0:(fOne xs).2=0:=by omega
  have hwf:=fOne_wf hw
  have hsm:=fOne_small (b:=xs)
  rw[rd3,if_neg (by rw[h0];simp)]
  obtain⟨p,hp⟩:∃p,(fOne xs).1=p:=⟨_,rfl⟩
  have he:fOne xs=(p,0):=Prod.ext hp h0
  rw[hp] at hwf hsm⊢
  cases p with
  |nil=>
   rw[if_pos (by simp[stRaw])]
   refine(read_empty A n c xs mark most _ w hn hr hc hw hm he).mono ?_
   rintro e w' ⟨rfl,k⟩
   exact RdP.kp0 (by decide) k
  |cons mk r=>
   have hst:O.stRaw 1 (some (mk::r))=([mk],some r):=by
    rw[O.stRaw]
    rw[if_neg (by simp only[List.length_cons];omega)]
    rfl
   rw[hst]
   by_cases hmk:mk=mark
   ·subst hmk
    rw[if_neg (by simp)]
    have:=read_good A n c xs mk most B ps r w hn hr hc hw hm he hwf (by omega) hps hB hq
    simp only[Int.ofNat_le] at this
    exact this
   ·rw[if_pos (by simpa using hmk)]
    refine(read_mark A n c xs mark most _ mk r w hn hr hc hw hm he hwf (by omega) hmk).mono ?_
    rintro e w' ⟨rfl,k⟩
    exact RdP.kp0 (by decide) k
end Go.Proofs.YtdiljpdohmeceaaGreat.wir
namespace Go.Proofs.YtdiljpdohmeceaaGreat.co
open Go.RowKit H O opk frame wir
theorem pmay_any(k c s:Int)(v:Value)(w:World):Calls Tryz.prog 84 #[.agg #[.int .i64 k,.int .i64 c,.int .i64 s,v]] w fun e w'=>e= .returned (.bool (wrOk k c s))/\Kp [] w w':=by
 have hbX:=heap_alloc_new w (.cells #[.int .i64 k,.int .i64 c,.int .i64 s,v] 112)
 have HK:As (Kp [] w (w.alloc (.cells #[.int .i64 k,.int .i64 c,.int .i64 s,v] 112))):=⟨(Kp.refl [] w).alloc _⟩
 have x0:=bkc hbX 0 rfl
 have x1:=bkc hbX 1 rfl
 have x2:=bkc hbX 2 rfl
 obtain⟨b0,hb0⟩:∃b,decide (0<=k/\k<=1099511627776)=b:=⟨_,rfl⟩
 obtain⟨b1,hb1⟩:∃b,decide (0<=c/\c<=100)=b:=⟨_,rfl⟩
 obtain⟨b2,hb2⟩:∃b,decide (-1<=s/\s<=255)=b:=⟨_,rfl⟩
 have H0:=As.mk (fun wX=>within_any k 0 1099511627776 wX)
 have H1:=As.mk (fun wX=>within_any c 0 100 wX)
 have H2:=As.mk (fun wX=>within_any s (-1) 255 wX)
 rw[hb0] at H0
 rw[hb1] at H1
 rw[hb2] at H2
 have HF:As (wrOk k c s=(b0&&b1&&b2)):=⟨by rw[wrOk,hb0,hb1,hb2]⟩
 clear hbX hb0 hb1 hb2
 go_enter Tryz.func84,Tryz.ntmps84
 cases b0<;>cases b1<;>cases b2
 all_goals go_wp2_with (first
  |(go_at_call 116;refine(H0.out _).mono ?_;rintro e w1 ⟨rfl,rfl⟩;clear H0)
  |(go_at_call 116;refine(H1.out _).mono ?_;rintro e w2 ⟨rfl,rfl⟩;clear H1)
  |(go_at_call 116;refine(H2.out _).mono ?_;rintro e w3 ⟨rfl,rfl⟩;clear H2))
 all_goals go_ret
 all_goals exact⟨ret_bool (by rw[HF.out];rfl),HK.out⟩
end Go.Proofs.YtdiljpdohmeceaaGreat.co
namespace Go.Proofs.YtdiljpdohmeceaaGreat.rp
open Go.RowKit H O
def Q4(w:World)(R:Nat)(a b c v:Value):Prop:=w.heap[R]?=some (.cells #[a,b,c,v] 112)
theorem Q4.cells{w:World}{R:Nat}{a b c v:Value}(h:Q4 w R a b c v):w.cell? ⟨R,0,none⟩=some a/\w.cell? ⟨R,1,none⟩=some b/\w.cell? ⟨R,2,none⟩=some c/\w.cell? ⟨R,3,none⟩=some v:=⟨bkc h 0 rfl,bkc h 1 rfl,bkc h 2 rfl,bkc h 3 rfl⟩
theorem Q4.new(w:World)(a b c v:Value):Q4 (w.alloc (.cells #[a,b,c,v] 112)) w.heap.size a b c v:=heap_alloc_new w _
theorem Q4.kp{S:List Nat}{w w1:World}{R:Nat}{a b c v:Value}(h:Q4 w R a b c v)(hk:Kp S w w1)(hb:R∉S):Q4 w1 R a b c v:=hk.blk h hb
theorem Q4.free{w:World}{R:Nat}{a b c v:Value}(h:Q4 w R a b c v)(j:Nat):w.frozen? ⟨R,j,none⟩=false:=blk_free h j
theorem Q4.res{fn:Func}{tmps:Array Value}{w:World}{R:Nat}{a b c v:Value}(h:Q4 w R a b c v)(hf:fn.results= #[.cell 2 112,.tmp 3])(h2:tmps.getD 2 undef= .pointer (some ⟨R,0,none⟩)):
 (results fn tmps).run Tryz.prog w= .ok (.tuple #[.agg #[a,b,c,v],tmps.getD 3 undef]) w:=by
 have hl:=run_loadVar_row (P:=Tryz.prog) w R 112 112 _ (0,0) _ h Tryz.underlying112 rfl (by kernel_rfl)
 rw[results_cell_tmp hf,h2]
 simp[asAddr,hl,Result.andThen]
theorem Q4.set{w:World}{R:Nat}{a b c v:Value}(h:Q4 w R a b c v)(a2 b2 c2 v2:Value):
 Q4 ((((w.setCell ⟨R,0,none⟩ a2).setCell ⟨R,1,none⟩ b2).setCell ⟨R,2,none⟩ c2).setCell ⟨R,3,none⟩ v2) R a2 b2 c2 v2/\Kp [R] w ((((w.setCell ⟨R,0,none⟩ a2).setCell ⟨R,1,none⟩ b2).setCell ⟨R,2,none⟩ c2).setCell ⟨R,3,none⟩ v2):=by
 have e1:Q4 (w.setCell ⟨R,0,none⟩ a2) R a2 b c v:=heap_setCell_same w R 0 _ _ a2 h
 have e2:Q4 ((w.setCell ⟨R,0,none⟩ a2).setCell ⟨R,1,none⟩ b2) R a2 b2 c v:=heap_setCell_same _ R 1 _ _ b2 e1
 have e3:Q4 (((w.setCell ⟨R,0,none⟩ a2).setCell ⟨R,1,none⟩ b2).setCell ⟨R,2,none⟩ c2) R a2 b2 c2 v:=heap_setCell_same _ R 2 _ _ c2 e2
 exact⟨heap_setCell_same _ R 3 _ _ v2 e3,((((Kp.refl _ w).setCell (.inl (by simp)) _).setCell (.inl (by simp)) _).setCell (.inl (by simp)) _).setCell (.inl (by simp)) _⟩
end Go.Proofs.YtdiljpdohmeceaaGreat.rp
