/- Words and walks that this claim rests on: proved lemmas alone. -/
import Derived.Test.YtdiljpdohmeceaaGreatZ19
set_option maxHeartbeats 16000000
set_option maxRecDepth 100000
namespace Go.Proofs.YtdiljpdohmeceaaGreat.co.cr
open Go.RowKit H O opk frame wir
theorem tick_all(U:List Nat)(w:World)(L:RLay)(cf:Cfg)(s:Cs)(hC:RsSt U w L cf s)(ok:CsOk cf s)(wt:Wt cf s.asks)(hx:∀j∈s.jobs,j.kind=2->j.text=[])(hc9:s.ctx<=1000000)(hd9:s.done.length<=1000000)(he9:s.ended+s.jobs.length<=1000000):
 Calls Tryz.prog 66 #[.pointer (some ⟨L.b,0,none⟩)] w (RTick U L cf (tick cf s) w):=by
 cases hj:s.jobs with
 |nil=>
  have ha:=ok.none hj
  have e:co.tick cf s=(s,[]):=by unfold co.tick;rw[hj]
  rw[e]
  have HLF:=As.mk (left_any U w L cf s hC he9)
  rw[hj] at HLF
  obtain⟨_,_,_,_,_,_,AA,cA,g7⟩:=hC.head
  rw[ha] at g7
  have HC:=As.mk hC
  clear hj ha e hC ok wt hx
  go_enter Tryz.func66,Tryz.ntmps66
  go_wp2_with (go_at_call 69;refine HLF.out.mono ?_;rintro e w1 ⟨rfl,q,hq⟩;have HQ:=As.mk hq;clear hq HLF)
  go_ret
  have k:Kp [] w w1:=by rw[HQ.out];exact(Kp.refl [] w).drewN q
  exact⟨L,_,rfl,HC.out.kp k (by simp) (fun x hx=> .inl hx),OutI.nil _ _,RGrew.refl _ _,k.mono (by simp)⟩
 |cons j jr=>
  by_cases ha:s.asks=[]
  ·have e:co.tick cf s=({s with asks:=mkAsks cf s.ended j 1 s.ctx (jshards cf j),ctx:=s.ctx+(jshards cf j).length},(mkAsks cf s.ended j 1 s.ctx (jshards cf j)).map (msgOf cf s.whom)):=by
    unfold co.tick
    rw[hj]
    simp only[if_pos ha]
   rw[e]
   have HLF:=As.mk (left_any U w L cf s hC he9)
   obtain⟨n,hn⟩:∃n,s.jobs.length=n:=⟨_,rfl⟩
   rw[hn] at HLF
   have n0:¬(n:Int)=0:=by rw[<-hn,hj];simp;omega
   have n0b:((n:Int)==0)=false:=by simpa using n0
   have HBG:=As.mk (fun q=>begins_any U (w.drewN q) L cf s j jr (hC.drewN q) ok hj ha (hx j (by rw[hj];simp)) hc9 (by omega))
   obtain⟨_,_,_,_,_,_,AA,cA,g7⟩:=hC.head
   rw[ha] at g7
   clear hj ha e hC ok wt hx hn
   go_enter Tryz.func66,Tryz.ntmps66
   go_wp2_with (first
    |(go_at_call 69;refine HLF.out.mono ?_;rintro e w1 ⟨rfl,q,rfl⟩;have HB1:=As.mk (HBG.out q);clear HLF HBG)
    |(go_at_call 97;refine HB1.out.mono ?_;rintro e w2 ⟨L',v,rfl,HZ⟩;have HZ:=As.mk HZ;clear HB1))
   go_ret
   exact⟨L',_,rfl,HZ.out.1,HZ.out.2.1,HZ.out.2.2.1,((Kp.refl L.all w).drewN q).trans HZ.out.2.2.2 (fun x hx=> .inl hx)⟩
  ·exact tick_run U w L cf s j jr hC ok wt hj ha hd9 (by omega)
end Go.Proofs.YtdiljpdohmeceaaGreat.co.cr
namespace Go.Proofs.YtdiljpdohmeceaaGreat.opk
open Go.RowKit H O haystacklaw13
theorem res_rep{fn:Func}{tmps:Array Value}{w:World}{R:Nat}{er:Int}{v:Value}(hf:fn.results= #[.cell 2 157,.tmp 3])(h2:tmps.getD 2 undef= .pointer (some ⟨R,0,none⟩))(h:RepAt w R er v):
 (results fn tmps).run Tryz.prog w= .ok (.tuple #[.agg #[.int .i64 er,v],tmps.getD 3 undef]) w:=by
 have hl:=run_loadVar_row (P:=Tryz.prog) w R 157 157 _ (0,0) _ h Tryz.underlying157 rfl (by kernel_rfl)
 rw[results_cell_tmp hf,h2]
 simp[asAddr,hl,Result.andThen]
theorem rep_set{w w7:World}{er0:Int}{v0:Value}(hk:Kp [] w w7)(h:RepAt w7 w.heap.size er0 v0)(er:Int)(v:Value):
 RepAt ((w7.setCell ⟨w.heap.size,0,none⟩ (.int .i64 er)).setCell ⟨w.heap.size,1,none⟩ v) w.heap.size er v/\Kp [] w ((w7.setCell ⟨w.heap.size,0,none⟩ (.int .i64 er)).setCell ⟨w.heap.size,1,none⟩ v)/\Kp [w.heap.size] w7 ((w7.setCell ⟨w.heap.size,0,none⟩ (.int .i64 er)).setCell ⟨w.heap.size,1,none⟩ v):=by
 have e1:RepAt (w7.setCell ⟨w.heap.size,0,none⟩ (.int .i64 er)) w.heap.size er v0:=heap_setCell_same w7 w.heap.size 0 _ _ (.int .i64 er) h
 have e2:RepAt ((w7.setCell ⟨w.heap.size,0,none⟩ (.int .i64 er)).setCell ⟨w.heap.size,1,none⟩ v) w.heap.size er v:=heap_setCell_same _ w.heap.size 1 _ _ v e1
 have kk:Kp [w.heap.size] w7 ((w7.setCell ⟨w.heap.size,0,none⟩ (.int .i64 er)).setCell ⟨w.heap.size,1,none⟩ v):=((Kp.refl _ w7).setCell (.inl (by simp)) _).setCell (.inl (by simp)) _
 exact⟨e2,hk.trans kk (by simp),kk⟩
theorem drep_none{xs:List Int}{w w':World}(h:dRep xs=(0,[],3))(k:Kp [] w w'):DRep xs w (.returned (.tuple #[.agg #[.int .i64 0,.slice none 0 0],.int .i64 3])) w':=
 ⟨0,[],3,none,0,0,h,rfl,rfl,Rd.nil _ _,Nat.le_refl _,fun _=>rfl,k⟩
theorem DR.start{w w4:World}{M b n0 n1:Nat}{s:Option (List Int)}{g:Option Nat}(kp:Kp [] w w4)(res:RepAt w4 w.heap.size 0 (.slice none 0 0))(many:w4.cell? ⟨M,0,none⟩=some (.int .i64 n1))(R:reader.Rdr w4 b g s)(hg:∀y,g=some y->w.heap.size<y/\y<w4.heap.size)(hb:w.heap.size<b)(hM:w.heap.size<M)(hMb:M≠b):
 DR w (w4.alloc (.cells #[.int .i64 n0,.slice none 0 0] 157)) M b w4.heap.size n0 n1 (.slice none 0 0) [] s:=by
 have ka:=(Kp.refl [] w4).alloc (.cells #[.int .i64 n0,.slice none 0 0] 157)
 exact⟨kp.trans ka (by simp),res.kp ka (by simp),ka.cell many (by simp),heap_alloc_new w4 _,World.ownsRow_nil _ 0 _ 1,by simp[Value.ownBlock],⟨g,R.kp ka (by simp) (by simp),hg⟩,hb,hM,R.lt,World.block_lt_of_cell? w4 _ many,hMb⟩
theorem decRep_any(A:Option Addr)(n c:Nat)(xs:List Int)(w:World)(hn:xs.length=n)(hr:Rd w A (iv .u8 xs))(hnil:A=none->c=0)(hw:Wf xs)(hm:n<=1000000):
 Calls Tryz.prog 85 #[.slice A n c] w (DRep xs w):=by
 have HNEW:As (∀wX,Kp [] w wX->Calls Tryz.prog 86 #[.slice A n c] wX (reader.NewRdr xs wX)):=⟨fun wX k=>reader.new_any A n c xs wX hn (k.rd_new hr (by simp)) hnil (by omega) hw⟩
 obtain⟨n0,s1,h0⟩:∃a b,stNum (some xs)=(a,b):=⟨_,_,rfl⟩
 obtain⟨n1,s2,h1⟩:∃a b,stNum s1=(a,b):=⟨_,_,rfl⟩
 obtain⟨s',hs'⟩:∃s',sRep n0 n1 s2=s':=⟨_,rfl⟩
 have he:=dRep_eq h0 h1
 simp only[hs'] at he
 have hl0:(left (some xs)).length<=140737488351232:=by simp[left];omega
 have hl2:(left s2).length<=140737488351232:=by
  have q1:=reader.left_le hl0
  rw[h0] at q1
  have q2:=reader.left_le q1
  rwa[h1] at q2
 have hl':(left s').length<=140737488351232:=by
  rw[<-hs',sRep]
  split
  ·exact hl2
  ·simp[left]
 have hn1:s'≠none->n1<=8:=by
  intro h
  rw[<-hs',sRep] at h
  split at h
  ·rename_i h9;exact h9.2
  ·exact absurd rfl h
 have HE:=As.mk he
 have H0:=As.mk h0
 have H1:=As.mk h1
 have HL0:=As.mk hl0
 have HL':=As.mk hl'
 have HN1:=As.mk hn1
 clear he h0 h1 hl0 hl2 hl' hn1 hn hr hnil hw
 by_cases hok:n0<=100/\n1<=8
 ·obtain⟨ha,hb⟩:=hok
  have hss:s2=s':=by rw[<-hs',sRep,if_pos ⟨ha,hb⟩]
  obtain rfl:s'=s2:=hss.symm
  clear hs'
  go_enter Tryz.func85,Tryz.ntmps85
  go_wp2_with (first
   |(go_at_call 86;refine(HNEW.out _ ((Kp.refl [] w).alloc _)).mono ?_;rintro e w2 ⟨b,g,rfl,R2,hb2,hg2,K2⟩;have r2:RepAt w2 w.heap.size 0 (.slice none 0 0):=K2.blk (heap_alloc_new w _) (by simp);have HK2:As (Kp [] w w2):=⟨((Kp.refl [] w).alloc _).trans K2 (by simp)⟩;rw[World.size_alloc] at hb2 hg2;have HBS:=As.mk hb2;have HGS:=As.mk hg2;have HBL:=As.mk R2.lt;have HQ2:=As.mk r2;have HNU:=As.mk (rep_nums R2 (fun x hx=>(hg2 x hx).2) HL0.out H0.out H1.out);clear R2 hb2 hg2 K2 r2 HNEW)
   |(go_at_call 115;refine HNU.out.mono ?_;rintro e w3 ⟨rfl,⟨g3,R3,G3⟩,d0,d1,k3,s3⟩;have HK3:As (Kp [] w w3):=⟨HK2.out.trans k3 (by intro x hx;simp at hx;have:=HBS.out;omega)⟩;have HST:=As.mk (DR.start (n0:=n0) HK3.out (HQ2.out.kp k3 (by have:=HBS.out;simp;omega)) d1 R3 (fun y hy=>by have h9:g=some y:=(by rcases G3 with h|h;rw[<-h];exact hy;rw[h] at hy;cases hy);have h8:=HGS.out y h9;have h7:=k3.size;omega) (by have:=HBS.out;omega) (by have:=HK2.out.size;omega) (by have:=HBL.out;omega));clear R3 G3 k3 s3 HNU))
  go_loopw [31] (fun _ wr=>∃(k cX:Nat) (AX:Option Addr),k<=n1/\As (DR w wr (w2.heap.size+1) b w3.heap.size n0 n1 (.slice AX k cX) (stNums k s').1 (stNums k s').2)) (fun _ wr=>n1-lenAt wr w3.heap.size)
  case atStart=>exact⟨0,0,none,by omega,⟨HST.out⟩⟩
  case round=>
   obtain⟨k,cX,AX,hk,HD⟩:=hrel
   obtain⟨e0,e1⟩:=HD.out.x.cells
   have dm:=HD.out.many
   have hlen:=HD.out.x.lenAt
   obtain⟨gk,hRk,hgk⟩:=HD.out.rdr
   have hlk:=reader.stNums_len k s'
   have hleft:=reader.stNums_left (k:=k) HL'.out
   by_cases hlt:k<n1
   ·cases hst:(stNums k s').2 with
    |none=>
     rw[hst] at hRk HD
     have HG:As (Calls Tryz.prog 117 #[.pointer (some ⟨b,0,none⟩)] wr fun e w'=>e= .returned (.bool false)/\w'=wr):=⟨reader.good_any b gk none wr hRk⟩
     have HWH:As (Calls Tryz.prog 90 #[.pointer (some ⟨b,0,none⟩)] wr fun e w'=>e= .returned (.bool false)/\w'=wr):=⟨reader.whole_any b gk none wr hRk⟩
     have HZ:As (dRep xs=(0,[],3)):=⟨by rw[HE.out,stNums_stay hst (by omega),if_neg (by simp)]⟩
     obtain⟨q0,q1⟩:=HD.out.res.cells
     have f0:=HD.out.res.free 0
     have f1:=HD.out.res.free 1
     clear hRk hgk hst hleft hlk
     go_wp2_with (first
      |(go_at_call 117;refine HG.out.mono ?_;rintro e w5 ⟨rfl,rfl⟩;clear HG)
      |(go_at_call 90;refine HWH.out.mono ?_;rintro e w6 ⟨rfl,rfl⟩;clear HWH))
     have hz:=rep_set HD.out.kp HD.out.res 0 (.slice none 0 0)
     (try simp only[Exit.inBlock,Exit.then])
     refine bodyPost_ret (res_rep rfl rfl hz.1) rfl ?_
     exact drep_none HZ.out hz.2.1
    |some rest=>
     have hs9:s'≠none:=by intro h;rw[h,stNums_none] at hst;cases hst
     have hn8:n1<=8:=HN1.out hs9
     rw[hst] at hRk HD hleft
     have HG:As (Calls Tryz.prog 117 #[.pointer (some ⟨b,0,none⟩)] wr fun e w'=>e= .returned (.bool true)/\w'=wr):=⟨reader.good_any b gk (some rest) wr hRk⟩
     obtain⟨y,st',hy⟩:∃a b,stNum (some rest)=(a,b):=⟨_,_,rfl⟩
     have hnm:=reader.num_any b gk (some rest) wr.drew (hRk.kp ((Kp.refl [] wr).drew) (by simp) (by simp)) hleft
     rw[hy] at hnm
     have HNM:=As.mk hnm
     have HDD:=As.mk (HD.out.skip ((Kp.refl [] wr).drew))
     have HGK:=As.mk hgk
     have HLK:=As.mk hlk
     have HNX:As ((stNums (k+1) s').1=(stNums k s').1++[(y:Int)]/\(stNums (k+1) s').2=st'):=⟨by rw[reader.stNums_snoc,hst,hy];exact⟨rfl,rfl⟩⟩
     have hXlt:w3.heap.size<wr.heap.size:=lt_of_block HD.out.x
     clear hRk hgk hst hleft hlk hs9 hnm hy
     go_wp2_with (go_at_call 117;refine HG.out.mono ?_;rintro e w5 ⟨rfl,rfl⟩;clear HG)
     go_region_law (first
      |(refine step64_one rfl (.tmp 33) (.tmp 36) rfl (.slice AX k cX) k (iv .i64 (stNums k s').1) rfl (by have h9:=HD6.out.own;rw[HLK.out] at h9;exact h9.alloc _) w6.heap.size (y:Int) rfl (by simp) (by omega) ?_;intro v7 w7 o7 k7 a7;have h7:=(HD6.out.skip ((Kp.refl [] w6).alloc _)).put HLK.out o7 k7 a7;obtain⟨x7,z7,h7⟩:=h7;obtain⟨A7,c7,rfl,_⟩:=own_rd o7;have HD7:=As.mk h7;clear o7 k7 a7 h7)
      |(go_simp;go_at_call 87;refine HNM.out.mono ?_;rintro e w6 HP;obtain⟨rfl,g6,R6,G6,K6⟩:=HP;have h6:=HDD.out.took HGK.out R6 G6 K6;have HD6:=As.mk h6;obtain⟨e60,e61⟩:=h6.x.cells;have hX6:w3.heap.size<w6.heap.size:=lt_of_block h6.x;clear R6 G6 K6 h6 HNM))
     all_goals
      go_roundw
      case rel=>exact⟨_,_,_,_,_,_,_,_,_,_,_,_,_,_,_,_,⟨k+1,c7,A7,by omega,⟨by rw[HNX.out.1,HNX.out.2];exact HD7.out⟩⟩,rfl⟩
      case measure=>rw[HD7.out.x.lenAt,hlen];omega
   ·obtain rfl:k=n1:=by omega
    have HWHX:As (Calls Tryz.prog 90 #[.pointer (some ⟨b,0,none⟩)] wr fun e w'=>e= .returned (.bool (reader.whole (stNums k s').2))/\w'=wr):=⟨reader.whole_any b gk _ wr hRk⟩
    obtain⟨q0,q1⟩:=HD.out.res.cells
    have f0:=HD.out.res.free 0
    have f1:=HD.out.res.free 1
    cases hwh:reader.whole (stNums k s').2 with
    |false=>
     have HZ:As (dRep xs=(0,[],3)):=⟨by rw[HE.out,if_neg];intro h9;rw[h9] at hwh;simp[reader.whole] at hwh⟩
     rw[hwh] at HWHX
     clear hRk hgk hleft hlk hwh
     go_wp2_with (go_at_call 90;refine HWHX.out.mono ?_;rintro e w6 ⟨rfl,rfl⟩;clear HWHX)
     have hz:=rep_set HD.out.kp HD.out.res 0 (.slice none 0 0)
     (try simp only[Exit.inBlock,Exit.then])
     refine bodyPost_ret (res_rep rfl rfl hz.1) rfl ?_
     exact drep_none HZ.out hz.2.1
    |true=>
     have HZ:As (dRep xs=((n0:Int),(stNums k s').1,0)):=⟨by rw[HE.out,if_pos];simpa [reader.whole] using hwh⟩
     rw[hwh] at HWHX
     have HLK:=As.mk hlk
     have HOWN:As (wr.ownsRow 0 3 1 (.slice AX k cX) k (iv .i64 (stNums k s').1)):=⟨by have h8:=HD.out.own;rwa[hlk] at h8⟩
     clear hRk hgk hleft hlk hwh
     go_wp2_with (go_at_call 90;refine HWHX.out.mono ?_;rintro e w6 ⟨rfl,rfl⟩;clear HWHX)
     have hz:=rep_set HD.out.kp HD.out.res n0 (.slice AX k cX)
     obtain⟨A9,c9,h9,hc9,_,r9,n9⟩:=own_rd HOWN.out
     cases h9
     (try simp only[Exit.inBlock,Exit.then])
     refine bodyPost_ret (res_rep rfl rfl hz.1) rfl ?_
     refine⟨_,_,_,AX,k,cX,HZ.out,rfl,HLK.out, ?_,by have:=HLK.out;omega,n9,hz.2.1⟩
     exact hz.2.2.rd r9 (fun a ha hm=>by have h9:=HD.out.lo a.block (by rw[ha];rfl);have h8:=HD.out.ord;simp at hm;omega)
 ·have hs0:s'=none:=by rw[<-hs',sRep,if_neg hok]
  clear hs'
  by_cases ha:100<n0
  ·clear hok
   go_enter Tryz.func85,Tryz.ntmps85
   go_wp2_with (first
    |(go_at_call 86;refine(HNEW.out _ ((Kp.refl [] w).alloc _)).mono ?_;rintro e w2 ⟨b,g,rfl,R2,hb2,hg2,K2⟩;have r2:RepAt w2 w.heap.size 0 (.slice none 0 0):=K2.blk (heap_alloc_new w _) (by simp);have HK2:As (Kp [] w w2):=⟨((Kp.refl [] w).alloc _).trans K2 (by simp)⟩;rw[World.size_alloc] at hb2 hg2;have HBS:=As.mk hb2;have HGS:=As.mk hg2;have HBL:=As.mk R2.lt;have HQ2:=As.mk r2;have HNU:=As.mk (rep_nums R2 (fun x hx=>(hg2 x hx).2) HL0.out H0.out H1.out);clear R2 hb2 hg2 K2 r2 HNEW)
    |(go_at_call 115;refine HNU.out.mono ?_;rintro e w3 ⟨rfl,⟨g3,R3,G3⟩,d0,d1,k3,s3⟩;have HK3:As (Kp [] w w3):=⟨HK2.out.trans k3 (by intro x hx;simp at hx;have:=HBS.out;omega)⟩;have HQ3:=As.mk (HQ2.out.kp k3 (by have:=HBS.out;simp;omega));have HG3:As (∀y,g3=some y->w.heap.size<y/\y<w3.heap.size):=⟨fun y hy=>by have h9:g=some y:=(by rcases G3 with h|h;rw[<-h];exact hy;rw[h] at hy;cases hy);have h8:=HGS.out y h9;have h7:=k3.size;omega⟩;have HBD:=As.mk (reader.bad_any b g3 s2 w3 R3);clear R3 G3 k3 s3 HNU)
    |(go_at_call 89;refine HBD.out.mono ?_;rintro e w4 HP;obtain⟨rfl,g4,R4,G4,K4⟩:=HP;have d04:=K4.cell d0 (by have:=HBL.out;simp;omega);have d14:=K4.cell d1 (by have:=HBL.out;simp;omega);have HK4:As (Kp [] w w4):=⟨HK3.out.trans K4 (by intro x hx;simp at hx;have:=HBS.out;omega)⟩;rw[<-hs0] at R4;have HST:=As.mk (DR.start (n0:=n0) HK4.out (HQ3.out.kp K4 (by have:=HBS.out;simp;omega)) d14 R4 (fun y hy=>by have h9:g3=some y:=(by rcases G4 with h|h;rw[<-h];exact hy;rw[h] at hy;cases hy);have h8:=HG3.out y h9;have h7:=K4.size;omega) (by have:=HBS.out;omega) (by have:=HK2.out.size;omega) (by have:=HBL.out;omega));clear R4 G4 K4 d0 d1 HBD))
   go_loopw [31] (fun _ wr=>∃(k cX:Nat) (AX:Option Addr),k<=n1/\As (DR w wr (w2.heap.size+1) b w4.heap.size n0 n1 (.slice AX k cX) (stNums k s').1 (stNums k s').2)) (fun _ wr=>n1-lenAt wr w4.heap.size)
   case atStart=>exact⟨0,0,none,by omega,⟨HST.out⟩⟩
   case round=>
    obtain⟨k,cX,AX,hk,HD⟩:=hrel
    obtain⟨e0,e1⟩:=HD.out.x.cells
    have dm:=HD.out.many
    have hlen:=HD.out.x.lenAt
    obtain⟨gk,hRk,hgk⟩:=HD.out.rdr
    have hlk:=reader.stNums_len k s'
    have hleft:=reader.stNums_left (k:=k) HL'.out
    by_cases hlt:k<n1
    ·cases hst:(stNums k s').2 with
     |none=>
      rw[hst] at hRk HD
      have HG:As (Calls Tryz.prog 117 #[.pointer (some ⟨b,0,none⟩)] wr fun e w'=>e= .returned (.bool false)/\w'=wr):=⟨reader.good_any b gk none wr hRk⟩
      have HWH:As (Calls Tryz.prog 90 #[.pointer (some ⟨b,0,none⟩)] wr fun e w'=>e= .returned (.bool false)/\w'=wr):=⟨reader.whole_any b gk none wr hRk⟩
      have HZ:As (dRep xs=(0,[],3)):=⟨by rw[HE.out,stNums_stay hst (by omega),if_neg (by simp)]⟩
      obtain⟨q0,q1⟩:=HD.out.res.cells
      have f0:=HD.out.res.free 0
      have f1:=HD.out.res.free 1
      clear hRk hgk hst hleft hlk
      go_wp2_with (first
       |(go_at_call 117;refine HG.out.mono ?_;rintro e w5 ⟨rfl,rfl⟩;clear HG)
       |(go_at_call 90;refine HWH.out.mono ?_;rintro e w6 ⟨rfl,rfl⟩;clear HWH))
      have hz:=rep_set HD.out.kp HD.out.res 0 (.slice none 0 0)
      (try simp only[Exit.inBlock,Exit.then])
      refine bodyPost_ret (res_rep rfl rfl hz.1) rfl ?_
      exact drep_none HZ.out hz.2.1
     |some rest=>
      rw[hs0,stNums_none] at hst
      cases hst
    ·obtain rfl:k=n1:=by omega
     have HWHX:As (Calls Tryz.prog 90 #[.pointer (some ⟨b,0,none⟩)] wr fun e w'=>e= .returned (.bool (reader.whole (stNums k s').2))/\w'=wr):=⟨reader.whole_any b gk _ wr hRk⟩
     obtain⟨q0,q1⟩:=HD.out.res.cells
     have f0:=HD.out.res.free 0
     have f1:=HD.out.res.free 1
     cases hwh:reader.whole (stNums k s').2 with
     |false=>
      have HZ:As (dRep xs=(0,[],3)):=⟨by rw[HE.out,if_neg];intro h9;rw[h9] at hwh;simp[reader.whole] at hwh⟩
      rw[hwh] at HWHX
      clear hRk hgk hleft hlk hwh
      go_wp2_with (go_at_call 90;refine HWHX.out.mono ?_;rintro e w6 ⟨rfl,rfl⟩;clear HWHX)
      have hz:=rep_set HD.out.kp HD.out.res 0 (.slice none 0 0)
      (try simp only[Exit.inBlock,Exit.then])
      refine bodyPost_ret (res_rep rfl rfl hz.1) rfl ?_
      exact drep_none HZ.out hz.2.1
     |true=>
      have HZ:As (dRep xs=((n0:Int),(stNums k s').1,0)):=⟨by rw[HE.out,if_pos];simpa [reader.whole] using hwh⟩
      rw[hwh] at HWHX
      have HLK:=As.mk hlk
      have HOWN:As (wr.ownsRow 0 3 1 (.slice AX k cX) k (iv .i64 (stNums k s').1)):=⟨by have h8:=HD.out.own;rwa[hlk] at h8⟩
      clear hRk hgk hleft hlk hwh
      go_wp2_with (go_at_call 90;refine HWHX.out.mono ?_;rintro e w6 ⟨rfl,rfl⟩;clear HWHX)
      have hz:=rep_set HD.out.kp HD.out.res n0 (.slice AX k cX)
      obtain⟨A9,c9,h9,hc9,_,r9,n9⟩:=own_rd HOWN.out
      cases h9
      (try simp only[Exit.inBlock,Exit.then])
      refine bodyPost_ret (res_rep rfl rfl hz.1) rfl ?_
      refine⟨_,_,_,AX,k,cX,HZ.out,rfl,HLK.out, ?_,by have:=HLK.out;omega,n9,hz.2.1⟩
      exact hz.2.2.rd r9 (fun a ha hm=>by have h9:=HD.out.lo a.block (by rw[ha];rfl);have h8:=HD.out.ord;simp at hm;omega)
  ·have hb:8<n1:=by omega
   clear hok
   go_enter Tryz.func85,Tryz.ntmps85
   go_wp2_with (first
    |(go_at_call 86;refine(HNEW.out _ ((Kp.refl [] w).alloc _)).mono ?_;rintro e w2 ⟨b,g,rfl,R2,hb2,hg2,K2⟩;have r2:RepAt w2 w.heap.size 0 (.slice none 0 0):=K2.blk (heap_alloc_new w _) (by simp);have HK2:As (Kp [] w w2):=⟨((Kp.refl [] w).alloc _).trans K2 (by simp)⟩;rw[World.size_alloc] at hb2 hg2;have HBS:=As.mk hb2;have HGS:=As.mk hg2;have HBL:=As.mk R2.lt;have HQ2:=As.mk r2;have HNU:=As.mk (rep_nums R2 (fun x hx=>(hg2 x hx).2) HL0.out H0.out H1.out);clear R2 hb2 hg2 K2 r2 HNEW)
    |(go_at_call 115;refine HNU.out.mono ?_;rintro e w3 ⟨rfl,⟨g3,R3,G3⟩,d0,d1,k3,s3⟩;have HK3:As (Kp [] w w3):=⟨HK2.out.trans k3 (by intro x hx;simp at hx;have:=HBS.out;omega)⟩;have HQ3:=As.mk (HQ2.out.kp k3 (by have:=HBS.out;simp;omega));have HG3:As (∀y,g3=some y->w.heap.size<y/\y<w3.heap.size):=⟨fun y hy=>by have h9:g=some y:=(by rcases G3 with h|h;rw[<-h];exact hy;rw[h] at hy;cases hy);have h8:=HGS.out y h9;have h7:=k3.size;omega⟩;have HBD:=As.mk (reader.bad_any b g3 s2 w3 R3);clear R3 G3 k3 s3 HNU)
    |(go_at_call 89;refine HBD.out.mono ?_;rintro e w4 HP;obtain⟨rfl,g4,R4,G4,K4⟩:=HP;have d04:=K4.cell d0 (by have:=HBL.out;simp;omega);have d14:=K4.cell d1 (by have:=HBL.out;simp;omega);have HK4:As (Kp [] w w4):=⟨HK3.out.trans K4 (by intro x hx;simp at hx;have:=HBS.out;omega)⟩;rw[<-hs0] at R4;have HST:=As.mk (DR.start (n0:=n0) HK4.out (HQ3.out.kp K4 (by have:=HBS.out;simp;omega)) d14 R4 (fun y hy=>by have h9:g3=some y:=(by rcases G4 with h|h;rw[<-h];exact hy;rw[h] at hy;cases hy);have h8:=HG3.out y h9;have h7:=K4.size;omega) (by have:=HBS.out;omega) (by have:=HK2.out.size;omega) (by have:=HBL.out;omega));clear R4 G4 K4 d0 d1 HBD))
   go_loopw [31] (fun _ wr=>∃(k cX:Nat) (AX:Option Addr),k<=n1/\As (DR w wr (w2.heap.size+1) b w4.heap.size n0 n1 (.slice AX k cX) (stNums k s').1 (stNums k s').2)) (fun _ wr=>n1-lenAt wr w4.heap.size)
   case atStart=>exact⟨0,0,none,by omega,⟨HST.out⟩⟩
   case round=>
    obtain⟨k,cX,AX,hk,HD⟩:=hrel
    obtain⟨e0,e1⟩:=HD.out.x.cells
    have dm:=HD.out.many
    have hlen:=HD.out.x.lenAt
    obtain⟨gk,hRk,hgk⟩:=HD.out.rdr
    have hlk:=reader.stNums_len k s'
    have hleft:=reader.stNums_left (k:=k) HL'.out
    by_cases hlt:k<n1
    ·cases hst:(stNums k s').2 with
     |none=>
      rw[hst] at hRk HD
      have HG:As (Calls Tryz.prog 117 #[.pointer (some ⟨b,0,none⟩)] wr fun e w'=>e= .returned (.bool false)/\w'=wr):=⟨reader.good_any b gk none wr hRk⟩
      have HWH:As (Calls Tryz.prog 90 #[.pointer (some ⟨b,0,none⟩)] wr fun e w'=>e= .returned (.bool false)/\w'=wr):=⟨reader.whole_any b gk none wr hRk⟩
      have HZ:As (dRep xs=(0,[],3)):=⟨by rw[HE.out,stNums_stay hst (by omega),if_neg (by simp)]⟩
      obtain⟨q0,q1⟩:=HD.out.res.cells
      have f0:=HD.out.res.free 0
      have f1:=HD.out.res.free 1
      clear hRk hgk hst hleft hlk
      go_wp2_with (first
       |(go_at_call 117;refine HG.out.mono ?_;rintro e w5 ⟨rfl,rfl⟩;clear HG)
       |(go_at_call 90;refine HWH.out.mono ?_;rintro e w6 ⟨rfl,rfl⟩;clear HWH))
      have hz:=rep_set HD.out.kp HD.out.res 0 (.slice none 0 0)
      (try simp only[Exit.inBlock,Exit.then])
      refine bodyPost_ret (res_rep rfl rfl hz.1) rfl ?_
      exact drep_none HZ.out hz.2.1
     |some rest=>
      rw[hs0,stNums_none] at hst
      cases hst
    ·obtain rfl:k=n1:=by omega
     have HWHX:As (Calls Tryz.prog 90 #[.pointer (some ⟨b,0,none⟩)] wr fun e w'=>e= .returned (.bool (reader.whole (stNums k s').2))/\w'=wr):=⟨reader.whole_any b gk _ wr hRk⟩
     obtain⟨q0,q1⟩:=HD.out.res.cells
     have f0:=HD.out.res.free 0
     have f1:=HD.out.res.free 1
     cases hwh:reader.whole (stNums k s').2 with
     |false=>
      have HZ:As (dRep xs=(0,[],3)):=⟨by rw[HE.out,if_neg];intro h9;rw[h9] at hwh;simp[reader.whole] at hwh⟩
      rw[hwh] at HWHX
      clear hRk hgk hleft hlk hwh
      go_wp2_with (go_at_call 90;refine HWHX.out.mono ?_;rintro e w6 ⟨rfl,rfl⟩;clear HWHX)
      have hz:=rep_set HD.out.kp HD.out.res 0 (.slice none 0 0)
      (try simp only[Exit.inBlock,Exit.then])
      refine bodyPost_ret (res_rep rfl rfl hz.1) rfl ?_
      exact drep_none HZ.out hz.2.1
     |true=>
      have HZ:As (dRep xs=((n0:Int),(stNums k s').1,0)):=⟨by rw[HE.out,if_pos];simpa [reader.whole] using hwh⟩
      rw[hwh] at HWHX
      have HLK:=As.mk hlk
      have HOWN:As (wr.ownsRow 0 3 1 (.slice AX k cX) k (iv .i64 (stNums k s').1)):=⟨by have h8:=HD.out.own;rwa[hlk] at h8⟩
      clear hRk hgk hleft hlk hwh
      go_wp2_with (go_at_call 90;refine HWHX.out.mono ?_;rintro e w6 ⟨rfl,rfl⟩;clear HWHX)
      have hz:=rep_set HD.out.kp HD.out.res n0 (.slice AX k cX)
      obtain⟨A9,c9,h9,hc9,_,r9,n9⟩:=own_rd HOWN.out
      cases h9
      (try simp only[Exit.inBlock,Exit.then])
      refine bodyPost_ret (res_rep rfl rfl hz.1) rfl ?_
      refine⟨_,_,_,AX,k,cX,HZ.out,rfl,HLK.out, ?_,by have:=HLK.out;omega,n9,hz.2.1⟩
      exact hz.2.2.rd r9 (fun a ha hm=>by have h9:=HD.out.lo a.block (by rw[ha];rfl);have h8:=HD.out.ord;simp at hm;omega)
end Go.Proofs.YtdiljpdohmeceaaGreat.opk
namespace Go.Proofs.YtdiljpdohmeceaaGreat.co
open Go.RowKit H O opk frame wir
def jobRun(m:Nat)(was has:Bool)(tv mv':Value)(wk ok:Int)(cid:Nat)(key:ByteArray)(c11 c12 c13:Value):Obj:=
 .cells #[.int .i64 (m:Int),.int .i64 0,.bool was,.bool has,tv,mv',.int .i64 wk,.int .i64 ok,.int .i64 (cid:Int),.int .i64 ((m:Int)+1),.string key,c11,c12,c13] 92 (0,0)
def TkP(p0 m:Nat)(MV:Value)(l:List (ByteArray×Int))(wk ok:Int)(cid:Nat)(key:ByteArray)(c11 c12 c13:Value)(t:Took)(w:World)(e:Ending)(w':World):Prop:=
 ∃was has tv mv' text ms,e= .returned (.int .i64 t.err)/\w'.heap[p0]?=some (jobRun m was has tv mv' wk ok cid key c11 c12 c13)/\Own 5 .u8 w' w.heap.size tv text/\w'.ownsRow 0 73 2 mv' (l++ms).length (mv (l++ms))/\At w.heap.size MV.ownBlock mv'.ownBlock/\
  Kp (p0::MV.ownBlock.toList) w w'/\(t.err=0->was=t.was/\has=t.has/\text=t.text/\ms=t.ms)/\(wk=2->was=false/\has=false/\tv= .slice none 0 0)
theorem TkP.plain{p0 m:Nat}{MV:Value}{l:List (ByteArray×Int)}{wk ok:Int}{cid:Nat}{key:ByteArray}{c11 c12 c13:Value}{t:Took}{w w':World}(was:Bool)(hb:w'.heap[p0]?=some (jobRun m was false (.slice none 0 0) MV wk ok cid key c11 c12 c13))(ho:w'.ownsRow 0 73 2 MV l.length (mv l))(k:Kp [p0] w w')
 (ht:t.err=0->was=t.was/\false=t.has/\[]=t.text/\[]=t.ms) (h2:wk=2->was=false):TkP p0 m MV l wk ok cid key c11 c12 c13 t w (.returned (.int .i64 t.err)) w':=
 ⟨was,false,_,MV,[],[],rfl,hb,Own.nil _ _ _ _,by rw[List.append_nil];exact ho,At.refl _ _,k.mono (fun x hx=> .inl (by simp at hx;simp[hx])),ht,fun e=>⟨h2 e,rfl,rfl⟩⟩
def wEnd(del:Bool)(er:Int)(l:List Int)(z:Int):Took:=
 if z≠0 then⟨false,false,[],[],3⟩ else if er=7 then⟨false,false,[],[],0⟩ else if er=0 then⟨del||decide (l.head?=some 1),false,[],[],0⟩ else⟨false,false,[],[],er⟩
theorem tookW_eq(del:Bool){data:List Int}{er z:Int}{l:List Int}(h:dRep data=(er,l,z)):tookW del data=wEnd del er l z:=by rw[tookW,wEnd,h]
theorem takes_write(p0 m:Nat)(MV:Value)(l:List (ByteArray×Int))(ok:Int)(cid:Nat)(key:ByteArray)(c11 c12 c13:Value)(A:Option Addr)(n c:Nat)(data:List Int)(w:World)
 (hp:w.heap[p0]?=some (jobRun m false false (.slice none 0 0) MV 1 ok cid key c11 c12 c13)) (ho:w.ownsRow 0 73 2 MV l.length (mv l)) (hg:∀g,MV.ownBlock=some g->g≠p0)
 (hn:data.length=n) (hr:Rd w A (iv .u8 data)) (hnil:A=none->c=0) (hw:Wf data) (hm:n<=50000):
 Calls Tryz.prog 49 #[.pointer (some ⟨p0,0,none⟩),.slice A n c] w (TkP p0 m MV l 1 ok cid key c11 c12 c13 (tookW (decide (ok=2)) data) w):=by
 have hpl:=lt_of_block hp
 have H1:As (Calls Tryz.prog 85 #[.slice A n c] w fun e w'=>∃A1 n1 c1,e= .returned (.tuple #[.agg #[.int .i64 (dRep data).1,.slice A1 n1 c1],.int .i64 (dRep data).2.2])/\As ((dRep data).2.1.length=n1/\Rd w' A1 (iv .i64 (dRep data).2.1)/\Kp [] w w')):=⟨by
  refine(decRep_any A n c data w hn hr hnil hw (by omega)).mono ?_
  rintro e w' ⟨er,l',z,A1,n1,c1,hd,rfl,h1,h2,_,_,h3⟩
  rw[hd]
  exact⟨A1,n1,c1,rfl,⟨h1,h2,h3⟩⟩⟩
 obtain⟨er,l',z,hd⟩:∃er l' z,dRep data=(er,l',z):=⟨_,_,_,rfl⟩
 rw[hd] at H1
 rw[tookW_eq _ hd]
 have a6:=bkc hp 6 rfl
 have HF:As (∀(t:Took) (w2:World),Kp [] w w2->(t.err=0->false=t.was/\false=t.has/\[]=t.text/\[]=t.ms)->TkP p0 m MV l 1 ok cid key c11 c12 c13 t w (.returned (.int .i64 t.err)) w2):=⟨fun t w2 k ht=>
  TkP.plain false (k.blk hp (by simp)) (k.own ho (by simp)) (k.mono (by simp)) ht (fun _=>rfl)⟩
 have HS:As (∀(t:Took) (w2 w3:World) (b:Bool),Kp [] w w2->Kp [] (w2.setCell ⟨p0,2,none⟩ (.bool b)) w3->(t.err=0->b=t.was/\false=t.has/\[]=t.text/\[]=t.ms)->TkP p0 m MV l 1 ok cid key c11 c12 c13 t w (.returned (.int .i64 t.err)) w3):=⟨fun t w2 w3 b k k3 ht=>by
  have kS:Kp [p0] w2 (w2.setCell ⟨p0,2,none⟩ (.bool b)):=(Kp.refl _ w2).setCell (.inl (by simp)) _
  exact TkP.plain b (k3.blk (heap_setCell_same w2 p0 2 _ _ (.bool b) (k.blk hp (by simp))) (by simp)) (k3.own (kS.own (k.own ho (by simp)) (fun g e=>by simpa using hg g e)) (by simp)) (((k.mono (by simp)).trans kS (fun x hx=> .inl hx)).trans k3 (by simp)) ht (fun e=>by omega)⟩
 clear hn hr hnil hw hm ho hg hd
 unfold jobRun at hp
 by_cases hz:z=0
 ·subst hz
  by_cases h7:er=7
  ·subst h7
   have ht:wEnd (decide (ok=2)) 7 l' 0=⟨false,false,[],[],0⟩:=by simp[wEnd]
   rw[ht]
   go_enter Tryz.func49,Tryz.ntmps49
   go_wp2_with (go_at_call 85;refine H1.out.mono ?_;rintro e w1 ⟨A1,n1,c1,rfl,HD⟩;clear H1)
   go_ret
   exact HF.out ⟨false,false,[],[],0⟩ _ (HD.out.2.2.alloc _) (fun _=>⟨rfl,rfl,rfl,rfl⟩)
  ·by_cases h0:er=0
   ·subst h0
    by_cases h2:ok=2
    ·subst h2
     have ht:wEnd (decide ((2:Int)=2)) 0 l' 0=⟨true,false,[],[],0⟩:=by simp[wEnd]
     rw[ht]
     go_enter Tryz.func49,Tryz.ntmps49
     go_wp2_with (go_at_call 85;refine H1.out.mono ?_;rintro e w1 ⟨A1,n1,c1,rfl,HD⟩;have b6:=HD.out.2.2.blk hp (by simp);have a7:=bkc b6 7 rfl;have a2:=bkc b6 2 rfl;have f2:=blk_free b6 2;have m1:=lt_of_block b6;have m2:¬p0=w1.heap.size:=(by omega);clear H1 b6)
     go_ret
     exact HS.out ⟨true,false,[],[],0⟩ w1 _ true HD.out.2.2 ((Kp.refl [] _).alloc _) (fun _=>⟨rfl,rfl,rfl,rfl⟩)
    ·have bok:(ok==2)=false:=by simpa using h2
     cases l' with
     |nil=>
      have ht:wEnd (decide (ok=2)) 0 [] 0=⟨false,false,[],[],0⟩:=by simp[wEnd,h2]
      rw[ht]
      have H10:As (Calls Tryz.prog 85 #[.slice A n c] w fun e w'=>∃A1 c1,e= .returned (.tuple #[.agg #[.int .i64 0,.slice A1 0 c1],.int .i64 0])/\As (Kp [] w w')):=⟨by
       refine H1.out.mono ?_
       rintro e w' ⟨A1,n1,c1,rfl,HD⟩
       obtain rfl:n1=0:=by have:=HD.out.1;simpa using this.symm
       exact⟨A1,c1,rfl,⟨HD.out.2.2⟩⟩⟩
      clear H1
      go_enter Tryz.func49,Tryz.ntmps49
      go_wp2_with (go_at_call 85;refine H10.out.mono ?_;rintro e w1 ⟨A1,c1,rfl,HD⟩;have b6:=HD.out.blk hp (by simp);have a7:=bkc b6 7 rfl;have a2:=bkc b6 2 rfl;have f2:=blk_free b6 2;have m1:=lt_of_block b6;have m2:¬p0=w1.heap.size:=(by omega);clear H10 b6)
      go_ret
      exact HS.out ⟨false,false,[],[],0⟩ w1 _ false HD.out ((Kp.refl [] _).alloc _) (fun _=>⟨rfl,rfl,rfl,rfl⟩)
     |cons x t'=>
      have H11:As (Calls Tryz.prog 85 #[.slice A n c] w fun e w'=>∃bb oo nn c1,e= .returned (.tuple #[.agg #[.int .i64 0,.slice (some ⟨bb,oo,none⟩) (nn+1) c1],.int .i64 0])/\w'.cell? ⟨bb,oo,none⟩=some (.int .i64 x)/\bb<w'.heap.size/\As (Kp [] w w')):=⟨by
       refine H1.out.mono ?_
       rintro e w' ⟨A1,n1,c1,rfl,HD⟩
       obtain⟨bb,oo,rfl,hc⟩:=int_at HD.out.2.1 0 (by simp)
       rw[Nat.add_zero] at hc
       refine⟨bb,oo,t'.length,c1,by rw[<-HD.out.1];rfl,hc,World.block_lt_of_cell? w' _ hc,⟨HD.out.2.2⟩⟩⟩
      clear H1
      by_cases hx:x=1
      ·subst hx
       have ht:wEnd (decide (ok=2)) 0 (1::t') 0=⟨true,false,[],[],0⟩:=by simp[wEnd]
       rw[ht]
       go_enter Tryz.func49,Tryz.ntmps49
       go_wp2_with (go_at_call 85;refine H11.out.mono ?_;rintro e w1 ⟨bb,oo,nn,c1,rfl,hcx,m3,HD⟩;have m4:¬bb=w1.heap.size:=(by omega);have b6:=HD.out.blk hp (by simp);have a7:=bkc b6 7 rfl;have a2:=bkc b6 2 rfl;have f2:=blk_free b6 2;have m1:=lt_of_block b6;have m2:¬p0=w1.heap.size:=(by omega);clear H11 b6)
       go_ret
       exact HS.out ⟨true,false,[],[],0⟩ w1 _ true HD.out ((Kp.refl [] _).alloc _) (fun _=>⟨rfl,rfl,rfl,rfl⟩)
      ·have ht:wEnd (decide (ok=2)) 0 (x::t') 0=⟨false,false,[],[],0⟩:=by simp[wEnd,h2,hx]
       rw[ht]
       have bx:(x==1)=false:=by simpa using hx
       go_enter Tryz.func49,Tryz.ntmps49
       go_wp2_with (go_at_call 85;refine H11.out.mono ?_;rintro e w1 ⟨bb,oo,nn,c1,rfl,hcx,m3,HD⟩;have m4:¬bb=w1.heap.size:=(by omega);have b6:=HD.out.blk hp (by simp);have a7:=bkc b6 7 rfl;have a2:=bkc b6 2 rfl;have f2:=blk_free b6 2;have m1:=lt_of_block b6;have m2:¬p0=w1.heap.size:=(by omega);clear H11 b6)
       go_ret
       exact HS.out ⟨false,false,[],[],0⟩ w1 _ false HD.out ((Kp.refl [] _).alloc _) (fun _=>⟨rfl,rfl,rfl,rfl⟩)
   ·have ht:wEnd (decide (ok=2)) er l' 0=⟨false,false,[],[],er⟩:=by simp[wEnd,h7,h0]
    rw[ht]
    have b0:(er==0)=false:=by simpa using h0
    have b7:(er==7)=false:=by simpa using h7
    go_enter Tryz.func49,Tryz.ntmps49
    go_wp2_with (go_at_call 85;refine H1.out.mono ?_;rintro e w1 ⟨A1,n1,c1,rfl,HD⟩;have b6:=HD.out.2.2.blk hp (by simp);have a7:=bkc b6 7 rfl;have a2:=bkc b6 2 rfl;have f2:=blk_free b6 2;have m1:=lt_of_block b6;have m2:¬p0=w1.heap.size:=(by omega);clear H1 b6)
    go_ret
    exact HS.out ⟨false,false,[],[],er⟩ w1 _ false HD.out.2.2 ((Kp.refl [] _).alloc _) (fun e=>absurd e h0)
 ·have ht:wEnd (decide (ok=2)) er l' z=⟨false,false,[],[],3⟩:=by simp[wEnd,hz]
  rw[ht]
  have bne:(z !=0)=true:=by simpa using hz
  go_enter Tryz.func49,Tryz.ntmps49
  go_wp2_with (go_at_call 85;refine H1.out.mono ?_;rintro e w1 ⟨A1,n1,c1,rfl,HD⟩;clear H1)
  go_ret
  exact HF.out ⟨false,false,[],[],3⟩ _ (HD.out.2.2.alloc _) (fun e=>by cases e)
end Go.Proofs.YtdiljpdohmeceaaGreat.co
namespace Go.Proofs.YtdiljpdohmeceaaGreat.reader
open Go.RowKit H O opk haystacklaw13
theorem info_match:(Tryz.prog.info? 73).map (fun i=>(i.zero,i.size,i.bytes))=some (some (.agg #[.string ⟨#[]⟩,.int .i64 0]),2,24):=by kernel_rfl
theorem appM{w:World}{ops:Array Oper}{rest:List Oper}{o:Oper}{a:Act}{Q:Exit->Act->World->Prop}(hgd:o.guard=none)(s x:Operand)
 (ho:o.op= .call {callee:= .builtin .append,args:= #[s,x],argTypes:= #[59,59]})
 (v:Value) (n:Nat) (xs:List Value) (hs:a.eval s=v) (hown:w.ownsRow 0 73 2 v n xs) (g:Nat) (key:ByteArray) (y:Int)
 (hx:a.eval x= .slice (some ⟨g,0,none⟩) 1 1) (hc:PlAt w g key y) (hm:n+1<=100000)
 (h:∀v' w',w'.ownsRow 0 73 2 v' (n+1) (xs++[.string key,.int .i64 y])->Kp v.ownBlock.toList w w'->At w.heap.size v.ownBlock v'.ownBlock->
  wpList Tryz.prog ops Q rest (a.put o.dst v') w'):wpList Tryz.prog ops Q (o::rest) a w:=
 wpList_app hgd s x 59 ho 73 (.agg #[.string ⟨#[]⟩,.int .i64 0]) 2 24 Tryz.underlying59 info_match (by kernel_rfl) (by decide) v n xs hs hown (some ⟨g,0,none⟩) 1 1 [.string key,.int .i64 y] hx rfl
  (by
   intro j u hj
   match j,hj with
   |0,hj=>simp at hj;subst hj;exact⟨_,rfl,by rw[add_zero'];exact hc.cells.1⟩
   |1,hj=>simp at hj;subst hj;exact⟨_,rfl,by rw[Addr.add_lit];exact hc.cells.2⟩)
  (by simp) (by intro u hu;simp only[List.mem_cons,List.not_mem_nil,or_false] at hu;rcases hu with rfl|rfl<;>rfl) (by omega) (by omega)
  (fun v' w' h1 h2 h3 _=>h v' w' h1 h2 h3)
structure MR(w wr:World)(b N0:Nat)(v:Value)(k:Nat)(l:List (ByteArray×Int))(s:Option (List Int)):Prop where
 kp:Kp [] w wr
 own:wr.ownsRow 0 73 2 v k (mv l)
 lo:∀y,v.ownBlock=some y->N0<=y
 rdr:∃g,Rdr wr b g s/\∀y,g=some y->y<N0
 ord:w.heap.size<=b/\b<N0/\N0<=wr.heap.size
theorem MR.skip{w wr w1:World}{b N0:Nat}{v:Value}{k:Nat}{l:List (ByteArray×Int)}{s:Option (List Int)}(h:MR w wr b N0 v k l s)(kk:Kp [] wr w1):MR w w1 b N0 v k l s:=by
 obtain⟨g,hr,hg⟩:=h.rdr
 have:=kk.size
 exact⟨h.kp.trans kk (by simp),kk.own h.own (by simp),h.lo,⟨g,hr.kp kk (by simp) (by simp),hg⟩,⟨h.ord.1,h.ord.2.1,Nat.le_trans h.ord.2.2 this⟩⟩
theorem MR.took{w wr w1:World}{b N0:Nat}{v:Value}{k:Nat}{l:List (ByteArray×Int)}{s s':Option (List Int)}{g g':Option Nat}(h:MR w wr b N0 v k l s)(hg:∀y,g=some y->y<N0)(R:Rdr w1 b g' s')(G:g'=g\/g'=none)(kk:Kp [b] wr w1):MR w w1 b N0 v k l s':=by
 obtain⟨o1,o2,o3⟩:=h.ord
 have:=kk.size
 exact⟨h.kp.trans kk (by intro x hx;simp at hx;omega),kk.own h.own (fun y hy=>by have:=h.lo y hy;simp;omega),h.lo,⟨g',R,fun y hy=>by rcases G with e|e;exact hg y (by rw[<-e];exact hy);rw[e] at hy;cases hy⟩,⟨o1,o2,by omega⟩⟩
theorem MR.put{w wr w2:World}{b N0:Nat}{v v':Value}{k:Nat}{l:List (ByteArray×Int)}{s:Option (List Int)}{m:ByteArray×Int}(h:MR w wr b N0 v k l s)(o:w2.ownsRow 0 73 2 v' (k+1) (mv l++[.string m.1,.int .i64 m.2]))(kk:Kp v.ownBlock.toList wr w2)(a:At wr.heap.size v.ownBlock v'.ownBlock):MR w w2 b N0 v' (k+1) (l++[m]) s:=by
 obtain⟨o1,o2,o3⟩:=h.ord
 obtain⟨g,hr,hg⟩:=h.rdr
 have hs:=kk.size
 have hS:∀i,i<N0->i∉v.ownBlock.toList:=fun i hi hm=>by have:=h.lo i (by simpa using hm);omega
 refine⟨h.kp.row kk (fun z hz=> .inr (by have:=h.lo z hz;omega)),by rw[mv_app];exact o,a.ge o3 h.lo,⟨g,hr.kp kk (hS _ o2) (fun z hz=>hS z (hg z hz)),hg⟩,⟨o1,o2,by omega⟩⟩
theorem MR.start{w w2:World}{b:Nat}{g:Option Nat}{s:Option (List Int)}(kp:Kp [] w w2)(R:Rdr w2 b g s)(hg:∀y,g=some y->y<w2.heap.size)(hb:w.heap.size<=b):MR w w2 b w2.heap.size (.slice none 0 0) 0 [] s:=
 ⟨kp,World.ownsRow_nil _ 0 _ 2,by simp[Value.ownBlock],⟨g,R,hg⟩,⟨hb,R.lt,Nat.le_refl _⟩⟩
theorem MR.box{w:World}{A:Option Addr}{n c:Nat}{xs:List Int}(hn:xs.length=n)(hr:Rd w A (iv .u8 xs))(hc:n<=c)(hc9:c<=9223372036854775807)(hnil:A=none->c=0)(hA:∀a,A=some a->a.block<w.heap.size)(hw:Wf xs):
 MR w (w.alloc (.cells #[.slice A n c,.bool false] 186)) w.heap.size (w.heap.size+1) (.slice none 0 0) 0 [] (some xs):=by
 subst hn
 have hg:∀y,A.map Addr.block=some y->y<w.heap.size:=by
  intro y hy
  cases A with
  |none=>simp at hy
  |some a=>simp at hy;rw[<-hy];exact hA a rfl
 refine⟨(Kp.refl [] w).alloc _,World.ownsRow_nil _ 0 _ 2,by simp[Value.ownBlock],⟨A.map Addr.block,⟨A,c,heap_alloc_new w _,rfl,((Kp.refl [] w).alloc _).rd_new hr (by simp),hc,hc9,hnil, ?_,hw⟩,fun y hy=>by have:=hg y hy;omega⟩,⟨Nat.le_refl _,by omega,by simp⟩⟩
 intro e
 have:=hg _ e
 omega
theorem MR.err{w wr:World}{b N0:Nat}{v:Value}{k:Nat}{l:List (ByteArray×Int)}{s:Option (List Int)}(h:MR w wr b N0 v k l s):wr.cell? ⟨b,1,none⟩=some (.bool s.isNone):=by
 obtain⟨g,⟨A,c,h1,_⟩,_⟩:=h.rdr
 exact bkc h1 1 rfl
theorem take_bytes{w wr:World}{b N0:Nat}{v:Value}{k:Nat}{l:List (ByteArray×Int)}{s s4:Option (List Int)}{p:List Int}(h:MR w wr b N0 v k l s)(hl:(left s).length<=140737488351232)(hs:stBytes s=(p,s4)):
 Calls Tryz.prog 88 #[.pointer (some ⟨b,0,none⟩)] wr fun e w5=>∃A5 n5 c5,e= .returned (.slice A5 n5 c5)/\p.length=n5/\MR w w5 b N0 v k l s4/\(∀w6,Kp [b] w5 w6->Rd w6 A5 (iv .u8 p))/\Kp [b] wr w5:=by
 obtain⟨g,R,hg⟩:=h.rdr
 refine(bytes_any b g s wr R hl).mono ?_
 rw[hs]
 rintro e w5 ⟨v5,rfl,O,g5,R5,G5,K5⟩
 have O':=O
 obtain⟨A5,c5,rfl,_,_,r5,_⟩:=own_rd O.1
 refine⟨A5,_,c5,rfl,rfl,h.took hg R5 G5 K5,fun w6 k6=>k6.rd r5 ?_,K5⟩
 intro a ha hm
 have h1:=O'.2 a.block (by rw[ha];rfl)
 have h2:=h.ord
 simp at hm
 omega
theorem take_num{w wr:World}{b N0:Nat}{v:Value}{k:Nat}{l:List (ByteArray×Int)}{s s4:Option (List Int)}{y:Nat}(h:MR w wr b N0 v k l s)(hl:(left s).length<=140737488351232)(hs:stNum s=(y,s4)):
 Calls Tryz.prog 87 #[.pointer (some ⟨b,0,none⟩)] wr fun e w5=>e= .returned (.int .i64 (y:Int))/\MR w w5 b N0 v k l s4/\Kp [b] wr w5:=by
 obtain⟨g,R,hg⟩:=h.rdr
 refine(num_any b g s wr R hl).mono ?_
 rw[hs]
 rintro e w5 ⟨rfl,g5,R5,G5,K5⟩
 exact⟨rfl,h.took hg R5 G5 K5,K5⟩
theorem take_bad{w wr:World}{b N0:Nat}{v:Value}{k:Nat}{l:List (ByteArray×Int)}{s:Option (List Int)}(h:MR w wr b N0 v k l s):
 Calls Tryz.prog 89 #[.pointer (some ⟨b,0,none⟩)] wr fun e w5=>e= .returned (.tuple #[])/\MR w w5 b N0 v k l none/\Kp [b] wr w5:=by
 obtain⟨g,R,hg⟩:=h.rdr
 refine(bad_any b g s wr R).mono ?_
 rintro e w5 ⟨rfl,g5,R5,G5,K5⟩
 exact⟨rfl,h.took hg R5 G5 K5,K5⟩
theorem take_whole{w wr:World}{b N0:Nat}{v:Value}{k:Nat}{l:List (ByteArray×Int)}{s:Option (List Int)}(h:MR w wr b N0 v k l s):
 Calls Tryz.prog 90 #[.pointer (some ⟨b,0,none⟩)] wr fun e w5=>e= .returned (.bool (whole s))/\w5=wr:=by
 obtain⟨g,R,hg⟩:=h.rdr
 exact whole_any b g s wr R
theorem MR.made{w w7:World}{b N0 X:Nat}{v:Value}{k:Nat}{l:List (ByteArray×Int)}{s:Option (List Int)}{key0:ByteArray}{x0:Int}(h:MR w w7 b N0 v k l s)(hz:PlAt w7 X key0 x0)(hX:N0<=X)(hv:∀y,v.ownBlock=some y->y<X)(key:ByteArray)(x:Int):
 MR w ((w7.setCell ⟨X,0,none⟩ (.string key)).setCell ⟨X,1,none⟩ (.int .i64 x)) b N0 v k l s/\PlAt ((w7.setCell ⟨X,0,none⟩ (.string key)).setCell ⟨X,1,none⟩ (.int .i64 x)) X key x/\b<X:=by
 obtain⟨o1,o2,o3⟩:=h.ord
 obtain⟨g,hr,hg⟩:=h.rdr
 have e1:PlAt (w7.setCell ⟨X,0,none⟩ (.string key)) X key x0:=heap_setCell_same w7 X 0 _ _ (.string key) hz
 have e2:PlAt ((w7.setCell ⟨X,0,none⟩ (.string key)).setCell ⟨X,1,none⟩ (.int .i64 x)) X key x:=heap_setCell_same _ X 1 _ _ (.int .i64 x) e1
 have kk:Kp [X] w7 ((w7.setCell ⟨X,0,none⟩ (.string key)).setCell ⟨X,1,none⟩ (.int .i64 x)):=((Kp.refl _ w7).setCell (.inl (by simp)) _).setCell (.inl (by simp)) _
 have hs:=kk.size
 refine⟨⟨h.kp.trans kk (by intro y hy;simp at hy;omega),kk.own h.own (fun y hy=>by have:=hv y hy;simp;omega),h.lo,⟨g,hr.kp kk (by simp;omega) (fun y hy=>by have:=hg y hy;simp;omega),hg⟩,⟨o1,o2,by omega⟩⟩,e2,by omega⟩
theorem MR.laid{w w7:World}{b N0:Nat}{v:Value}{k:Nat}{l:List (ByteArray×Int)}{s:Option (List Int)}(h:MR w w7 b N0 v k l s)(key:ByteArray)(x:Int):
 MR w (w7.alloc (.cells #[.string key,.int .i64 x] 73)) b N0 v k l s/\PlAt (w7.alloc (.cells #[.string key,.int .i64 x] 73)) w7.heap.size key x/\b<w7.heap.size:=
 ⟨h.skip ((Kp.refl [] _).alloc _),PlAt.new _ _ _,by have:=h.ord;omega⟩
def DMs(xs:List Int)(w:World)(e:Ending)(w':World):Prop:=
 ∃(l:List (ByteArray×Int)) (z:Int) (A:Option Addr) (n c:Nat),dMs xs=(l,z)/\e= .returned (.tuple #[.slice A n c,.int .i64 z])/\l.length=n/\Rd w' A (mv l)/\n<=c/\(A=none->c=0)/\Kp [] w w'
theorem dms_none{xs:List Int}{w w':World}(h:dMs xs=([],3))(k:Kp [] w w'):DMs xs w (.returned (.tuple #[.slice none 0 0,.int .i64 3])) w':=
 ⟨[],3,none,0,0,h,rfl,rfl,Rd.nil _ _,Nat.le_refl _,fun _=>rfl,k⟩
end Go.Proofs.YtdiljpdohmeceaaGreat.reader
namespace Go.Proofs.YtdiljpdohmeceaaGreat.opk
open Go.RowKit H O haystacklaw13 reader
theorem readMs_any(A:Option Addr)(n c:Nat)(xs:List Int)(w:World)(hn:xs.length=n)(hr:Rd w A (iv .u8 xs))(hnil:A=none->c=0)(hw:Wf xs)(hm:n<=50000):
 Calls Tryz.prog 91 #[.slice A n c] w (DMs xs w):=by
 have HNEW:=As.mk (reader.new_any A n c xs w hn hr hnil (by omega) hw)
 obtain⟨N,s1,h0⟩:∃a b,stNum (some xs)=(a,b):=⟨_,_,rfl⟩
 have HE:=As.mk (dMs_eq h0)
 have hl1:(left s1).length<=50000:=by
  have q1:=reader.left_le (s:=some xs) (m:=50000) (by simp[left];omega)
  rwa[h0] at q1
 have HC:As (∀j r,(mIter j s1).2=some r->j+r.length<=50000):=⟨fun j r h=>by have:=mIter_count h;omega⟩
 have H0:=As.mk h0
 have HL0:As ((left (some xs)).length<=140737488351232):=⟨by simp[left];omega⟩
 clear h0 hl1 hn hr hnil hw
 go_enter Tryz.func91,Tryz.ntmps91
 go_wp2_with (first
  |(go_at_call 86;refine HNEW.out.mono ?_;rintro e w2 ⟨b,g,rfl,R2,hb2,hg2,K2⟩;have HS2:=As.mk (MR.start K2 R2 (fun y hy=>(hg2 y hy).2) hb2);have HNM:=As.mk (take_num HS2.out HL0.out H0.out);clear R2 hb2 hg2 K2 HNEW)
  |(go_at_call 87;refine HNM.out.mono ?_;rintro e w3 ⟨rfl,h3,k3⟩;have HS3:=As.mk h3;clear h3 k3 HNM))
 go_loopw [4] (fun v wr=>∃(k cX:Nat) (AX:Option Addr),v= .slice AX k cX/\k<=N/\As (MR w wr b w2.heap.size (.slice AX k cX) k (mIter k s1).1 (mIter k s1).2)) (fun v _=>N-match v with| .slice _ m _=>m|_=>0)
 case atStart=>exact⟨0,0,none,rfl,by omega,HS3⟩
 case round=>
  obtain⟨k,cX,AX,rfl,hk,HD⟩:=hrel
  by_cases hlt:k<N
  ·cases hst:(mIter k s1).2 with
   |none=>
    have HD':=HD.out
    rw[hst] at HD'
    have HG:As (Calls Tryz.prog 117 #[.pointer (some ⟨b,0,none⟩)] wr fun e w'=>e= .returned (.bool false)/\w'=wr):=⟨by obtain⟨g,R,_⟩:=HD'.rdr;exact reader.good_any b g none wr R⟩
    have HWH:=As.mk (take_whole HD')
    have HZ:As (dMs xs=([],3)):=⟨by rw[HE.out,mIter_stay hst (by omega),if_neg (by simp)]⟩
    have HKP:=As.mk HD'.kp
    clear HD' hst
    go_wp2_with (first
     |(go_at_call 117;refine HG.out.mono ?_;rintro e w5 ⟨rfl,rfl⟩;clear HG)
     |(go_at_call 90;refine HWH.out.mono ?_;rintro e w6 ⟨rfl,rfl⟩;clear HWH))
    go_ret2
    exact dms_none HZ.out HKP.out
   |some rest=>
    have hk9:k<=50000:=by have:=HC.out k rest hst;omega
    have HD':=HD.out
    rw[hst] at HD'
    have HG:As (Calls Tryz.prog 117 #[.pointer (some ⟨b,0,none⟩)] wr fun e w'=>e= .returned (.bool true)/\w'=wr):=⟨by obtain⟨g,R,_⟩:=HD'.rdr;exact reader.good_any b g (some rest) wr R⟩
    obtain⟨p,s4,hp⟩:∃p q,stBytes (some rest)=(p,q):=⟨_,_,rfl⟩
    obtain⟨y,s5,hy⟩:∃p q,stNum s4=(p,q):=⟨_,_,rfl⟩
    have hrest:(left (some rest)).length<=140737488351232:=by have:=HC.out k rest hst;simp[left];omega
    have hl4:(left s4).length<=140737488351232:=by have h:=stBytes_left (s:=some rest) hrest;rwa[hp] at h
    have HBYX:As (∀wX,Kp [] wr wX->Calls Tryz.prog 88 #[.pointer (some ⟨b,0,none⟩)] wX fun e w5=>∃A5 n5 c5,e= .returned (.slice A5 n5 c5)/\p.length=n5/\MR w w5 b w2.heap.size (.slice AX k cX) k (mIter k s1).1 s4/\(∀w6,Kp [b] w5 w6->Rd w6 A5 (iv .u8 p))/\Kp [b] wX w5):=⟨fun wX kX=>take_bytes (HD'.skip kX) hrest hp⟩
    have HNUX:As (∀wY,MR w wY b w2.heap.size (.slice AX k cX) k (mIter k s1).1 s4->Calls Tryz.prog 87 #[.pointer (some ⟨b,0,none⟩)] wY fun e w5=>e= .returned (.int .i64 (y:Int))/\MR w w5 b w2.heap.size (.slice AX k cX) k (mIter k s1).1 s5/\Kp [b] wY w5):=⟨fun wY hY=>take_num hY hl4 hy⟩
    have HOB:As (∀z,(Value.slice AX k cX).ownBlock=some z->z<wr.heap.size):=⟨fun z hz=>own_lt HD'.own z hz⟩
    have HNZ:As (w2.heap.size<=wr.heap.size):=⟨HD'.ord.2.2⟩
    have HNX:As ((mIter (k+1) s1).1=(mIter k s1).1++[(strOfNums p,(y:Int))]/\(mIter (k+1) s1).2=if 1<=p.length/\p.length<=64 then s5 else none):=⟨by simp only[mIter,hst,mStep,hp,hy,and_self]⟩
    have hX0:b<wr.heap.size:=by have:=HD'.ord;omega
    have HXB:=As.mk hX0
    clear HD' hst hrest hl4 hp hy hX0
    go_upto_region 5 with(go_at_call 117;refine HG.out.mono ?_;rintro e w5 ⟨rfl,rfl⟩;clear HG)
    go_cut [7] from 12 to 35 (fun v wx=>∃X,v= .pointer (some ⟨X,0,none⟩)/\As (MR w wx b w2.heap.size (.slice AX k cX) k (mIter k s1).1 s5/\PlAt wx X (strOfNums p) y/\b<X))
    case first=>
     go_region_law (first
      |(go_simp;go_at_call 88;(first|(refine(HBYX.out _ (Kp.refl [] _).drew).mono ?_;rintro e w6 HP;obtain⟨A6,n6,c6,rfl,hn6,h6,r6,k6⟩:=HP)|(refine(HBYX.out _ ((Kp.refl [] _).drew.alloc _)).mono ?_;rintro e w6 HP;obtain⟨A6,n6,c6,rfl,hn6,h6,r6,k6⟩:=HP;have HZ6:As (PlAt w6 w5.heap.size ⟨#[]⟩ 0):=⟨(PlAt.new w5.drew ⟨#[]⟩ 0).kp k6 (by have:=HXB.out;simp;omega)⟩;obtain⟨z60,z61⟩:=HZ6.out.cells;have f60:=HZ6.out.free 0;have f61:=HZ6.out.free 1));have HS6:As (w5.heap.size<=w6.heap.size):=⟨by have:=k6.size;simp at this;omega⟩;have HD6:=As.mk h6;have HN6:=As.mk hn6;have HR6:=As.mk r6;have hcv:=conv_str (c:=c6) hn6 (r6 w6 (Kp.refl _ _));have hcva:=fun o=>conv_str (c:=c6) hn6 (r6 (w6.alloc o) ((Kp.refl _ _).alloc _));clear hn6 h6 r6 k6)
      |(go_simp;go_at_call 87;refine(HNUX.out _ (by first|exact HD6.out|exact HD6.out.skip ((Kp.refl [] _).alloc _))).mono ?_;rintro e w7 HP;obtain⟨rfl,h7,k7⟩:=HP;have HD7:=As.mk h7;have k67:Kp [b] w6 w7:=(by first|exact k7|exact((Kp.refl [b] _).alloc _).trans k7 (fun x hx=> .inl hx));have hcv7:=conv_str (c:=c6) HN6.out (HR6.out w7 k67);have hcva7:=fun o=>conv_str (c:=c6) HN6.out (HR6.out (w7.alloc o) (k67.alloc o));(first|(have HZ7:=As.mk (HZ6.out.kp k7 (by have:=HXB.out;simp;omega));obtain⟨z70,z71⟩:=HZ7.out.cells;have f70:=HZ7.out.free 0;have f71:=HZ7.out.free 1)|(have HZ7:As (PlAt w7 w6.heap.size ⟨#[]⟩ 0):=⟨(PlAt.new w6 ⟨#[]⟩ 0).kp k7 (by have:=HD6.out.ord;simp;omega)⟩;obtain⟨z70,z71⟩:=HZ7.out.cells;have f70:=HZ7.out.free 0;have f71:=HZ7.out.free 1)|skip);clear h7 k7 k67))
     all_goals go_wp2_with fail
     all_goals go_meet
     all_goals first
      |exact⟨_,rfl,⟨HD7.out.made HZ7.out (by have:=HS6.out;have:=HNZ.out;omega) (fun z hz=>by have:=HOB.out z hz;have:=HS6.out;omega) _ _⟩⟩
      |exact⟨_,rfl,⟨HD7.out.laid _ _⟩⟩
    case rest=>
     obtain⟨X,rfl,HQ⟩:=hcut
     obtain⟨e0,e1⟩:=HQ.out.2.1.cells
     have hXlt:X<wc.heap.size:=lt_of_block HQ.out.2.1
     by_cases hkey:1<=p.length/\p.length<=64
     ·have HI:=As.mk (isKey_any (strOfNums p) wc)
      rw[str_size,decide_eq_true hkey] at HI
      have HNX2:=HNX.out.2
      rw[if_pos hkey] at HNX2
      have HNY:=As.mk (And.intro HNX.out.1 HNX2)
      clear HNX2 HNX hkey
      go_wp2_with (first
       |(go_at_call 104;refine HI.out.mono ?_;rintro e w8 ⟨rfl,rfl⟩;clear HI)
       |(at_builtin;refine reader.appM rfl (.tmp 32) (.tmp 34) rfl (.slice AX k cX) k (mv (mIter k s1).1) rfl (((Kp.refl [] _).alloc _).own HQ.out.1.own (by simp)) w8.heap.size (strOfNums p) y rfl (PlAt.new w8 _ _) (by omega) ?_;intro v9 w9 o9 k9 a9;have h9:=(HQ.out.1.skip ((Kp.refl [] _).alloc _)).put (m:=(strOfNums p,(y:Int))) o9 k9 a9;obtain⟨A9,c9,rfl,_⟩:=own_rd o9;have HD9:=As.mk h9;clear o9 k9 a9 h9))
      go_roundw
      case rel=>exact⟨k+1,c9,A9,rfl,by omega,⟨by rw[HNY.out.1,HNY.out.2];exact HD9.out⟩⟩
      case measure=>simp;omega
     ·have HI:=As.mk (isKey_any (strOfNums p) wc)
      rw[str_size,decide_eq_false hkey] at HI
      have HNX2:=HNX.out.2
      rw[if_neg hkey] at HNX2
      have HNY:=As.mk (And.intro HNX.out.1 HNX2)
      have HBD:=As.mk (take_bad HQ.out.1)
      clear HNX2 HNX hkey
      go_wp2_with (first
       |(go_at_call 104;refine HI.out.mono ?_;rintro e w8 ⟨rfl,rfl⟩;clear HI)
       |(go_at_call 89;refine HBD.out.mono ?_;rintro e w8' ⟨rfl,h8,k8⟩;have HB8:=As.mk h8;obtain⟨e80,e81⟩:=(HQ.out.2.1.kp k8 (by have:=HQ.out.2.2;simp;omega)).cells;have hX8:X<w8'.heap.size:=(by have:=k8.size;omega);clear h8 k8 HBD)
       |(at_builtin;refine reader.appM rfl (.tmp 32) (.tmp 34) rfl (.slice AX k cX) k (mv (mIter k s1).1) rfl (((Kp.refl [] _).alloc _).own HB8.out.own (by simp)) w8'.heap.size (strOfNums p) y rfl (PlAt.new w8' _ _) (by omega) ?_;intro v9 w9 o9 k9 a9;have h9:=(HB8.out.skip ((Kp.refl [] _).alloc _)).put (m:=(strOfNums p,(y:Int))) o9 k9 a9;obtain⟨A9,c9,rfl,_⟩:=own_rd o9;have HD9:=As.mk h9;clear o9 k9 a9 h9))
      go_roundw
      case rel=>exact⟨k+1,c9,A9,rfl,by omega,⟨by rw[HNY.out.1,HNY.out.2];exact HD9.out⟩⟩
      case measure=>simp;omega
  ·obtain rfl:k=N:=by omega
   have HWH:=As.mk (take_whole HD.out)
   cases hwh:whole (mIter k s1).2 with
   |false=>
    have HZ:As (dMs xs=([],3)):=⟨by rw[HE.out,if_neg];intro h9;rw[h9] at hwh;simp[whole] at hwh⟩
    rw[hwh] at HWH
    clear hwh
    go_wp2_with (go_at_call 90;refine HWH.out.mono ?_;rintro e w6 ⟨rfl,rfl⟩;clear HWH)
    go_ret2
    exact dms_none HZ.out HD.out.kp
   |true=>
    have HZ:As (dMs xs=((mIter k s1).1,0)):=⟨by rw[HE.out,if_pos];simpa [whole] using hwh⟩
    rw[hwh] at HWH
    clear hwh
    go_wp2_with (go_at_call 90;refine HWH.out.mono ?_;rintro e w6 ⟨rfl,rfl⟩;clear HWH)
    go_ret2
    obtain⟨A9,c9,h9,hc9,_,r9,n9⟩:=own_rd HD.out.own
    cases h9
    exact⟨_,_,AX,k,cX,HZ.out,rfl,mIter_len k s1,r9,hc9,n9,HD.out.kp⟩
end Go.Proofs.YtdiljpdohmeceaaGreat.opk
namespace Go.Proofs.YtdiljpdohmeceaaGreat.co
open Go.RowKit H O opk frame wir
def gEnd(n0:Nat)(s1:Option (List Int))(dat:List Int)(s2:Option (List Int)):Took:=
 if n0=1 then(if s2=some [] then⟨false,true,dat,[],0⟩ else⟨false,false,[],[],3⟩) else if n0=0/\s1=some [] then⟨false,false,[],[],0⟩ else⟨false,false,[],[],3⟩
theorem tookG_eq{data:List Int}{n0:Nat}{s1 s2:Option (List Int)}{dat:List Int}(h:stNum (some data)=(n0,s1))(h2:stBytes s1=(dat,s2)):tookG data=gEnd n0 s1 dat s2:=by
 rw[tookG,gEnd,h]
 simp only
 rw[h2]
theorem whole_eq(s:Option (List Int)):reader.whole s=decide (s=some []):=by
 rw[Bool.eq_iff_iff]
 simp[reader.whole]
def RG(lo:Nat)(w:World)(b:Nat)(s:Option (List Int)):Prop:=∃g,reader.Rdr w b g s/\∀x,g=some x->lo<=x
theorem RG.kp{lo:Nat}{w w1:World}{b:Nat}{s:Option (List Int)}{S:List Nat}(h:RG lo w b s)(hb:lo<=b)(k:Kp S w w1)(hS:∀x∈S,x<lo):RG lo w1 b s:=by
 obtain⟨g,R,hg⟩:=h
 exact⟨g,R.kp k (fun hm=>by have:=hS _ hm;omega) (fun x hx hm=>by have:=hS _ hm;have:=hg x hx;omega),hg⟩
theorem RG.next{lo:Nat}{g g':Option Nat}(hg:∀x,g=some x->lo<=x)(h:g'=g\/g'=none):∀x,g'=some x->lo<=x:=fun x hx=>by
 rcases h with e|e
 ·exact hg x (by rw[<-e];exact hx)
 ·rw[e] at hx;cases hx
theorem takes_get(p0 m:Nat)(MV:Value)(l:List (ByteArray×Int))(ok:Int)(cid:Nat)(key:ByteArray)(c11 c12 c13:Value)(A:Option Addr)(n c:Nat)(data:List Int)(w:World)
 (hp:w.heap[p0]?=some (jobRun m false false (.slice none 0 0) MV 3 ok cid key c11 c12 c13)) (ho:w.ownsRow 0 73 2 MV l.length (mv l)) (hg:∀g,MV.ownBlock=some g->g≠p0)
 (hn:data.length=n) (hr:Rd w A (iv .u8 data)) (hnil:A=none->c=0) (hw:Wf data) (hm:n<=50000):
 Calls Tryz.prog 49 #[.pointer (some ⟨p0,0,none⟩),.slice A n c] w (TkP p0 m MV l 3 ok cid key c11 c12 c13 (tookG data) w):=by
 have hpl:=lt_of_block hp
 obtain⟨n0,s1,h0⟩:∃a b,stNum (some data)=(a,b):=⟨_,_,rfl⟩
 obtain⟨dat,s2,h2⟩:∃a b,stBytes s1=(a,b):=⟨_,_,rfl⟩
 rw[tookG_eq h0 h2]
 have hl1:(left s1).length<=50000:=by have:=reader.left_le (s:=some data) (m:=50000) (by simpa [left,hn] using hm);rw[h0] at this;exact this
 have H1:=As.mk (reader.new_any A n c data w hn hr hnil (by omega) hw)
 have H2:As (∀wX b,RG w.heap.size wX b (some data)->Calls Tryz.prog 87 #[.pointer (some ⟨b,0,none⟩)] wX fun e w'=>e= .returned (.int .i64 n0)/\As (RG w.heap.size w' b s1)/\Kp [b] wX w'):=⟨fun wX b h=>by
  obtain⟨g,h,hg2⟩:=h
  refine(reader.num_any b g (some data) wX h (by simp only[left,Option.getD_some];omega)).mono ?_
  rw[h0]
  rintro e w' ⟨rfl,g',R,G,k⟩
  exact⟨rfl,⟨g',R,RG.next hg2 G⟩,k⟩⟩
 have H3:As (∀wX b,RG w.heap.size wX b s1->Calls Tryz.prog 88 #[.pointer (some ⟨b,0,none⟩)] wX fun e w'=>∃A5 n5 c5,e= .returned (.slice A5 n5 c5)/\As (Own 5 .u8 w' wX.heap.size (.slice A5 n5 c5) dat/\RG w.heap.size w' b s2/\Kp [b] wX w')):=⟨fun wX b R=>by
  obtain⟨g,R,hg2⟩:=R
  refine(reader.bytes_any b g s1 wX R (by omega)).mono ?_
  rw[h2]
  rintro e w' ⟨v,rfl,o,g',R',G,k⟩
  obtain⟨A5,c5,rfl,_⟩:=own_rd o.1
  exact⟨A5,_,c5,rfl,⟨o,⟨g',R',RG.next hg2 G⟩,k⟩⟩⟩
 have H4:As (∀wX b,RG w.heap.size wX b s1->Calls Tryz.prog 89 #[.pointer (some ⟨b,0,none⟩)] wX fun e w'=>e= .returned (.tuple #[])/\As (RG w.heap.size w' b none)/\Kp [b] wX w'):=⟨fun wX b R=>by
  obtain⟨g,R,hg2⟩:=R
  refine(reader.bad_any b g s1 wX R).mono ?_
  rintro e w' ⟨rfl,g',R',G,k⟩
  exact⟨rfl,⟨g',R',RG.next hg2 G⟩,k⟩⟩
 have H5:As (∀s wX b,RG w.heap.size wX b s->Calls Tryz.prog 90 #[.pointer (some ⟨b,0,none⟩)] wX fun e w'=>e= .returned (.bool (decide (s=some [])))/\w'=wX):=⟨fun s wX b h=>by
  obtain⟨g,R,_⟩:=h
  rw[<-whole_eq]
  exact reader.whole_any b g s wX R⟩
 have a6:=bkc hp 6 rfl
 have HF:As (∀(t:Took) (w2:World),Kp [] w w2->(t.err=0->false=t.was/\false=t.has/\[]=t.text/\[]=t.ms)->TkP p0 m MV l 3 ok cid key c11 c12 c13 t w (.returned (.int .i64 t.err)) w2):=⟨fun t w2 k ht=>
  TkP.plain false (k.blk hp (by simp)) (k.own ho (by simp)) (k.mono (by simp)) ht (fun _=>rfl)⟩
 have HS:As (∀(t:Took) (w2:World) (v:Value),Kp [] w w2->Own 5 .u8 w2 w.heap.size v dat->(t.err=0->false=t.was/\true=t.has/\dat=t.text/\[]=t.ms)->TkP p0 m MV l 3 ok cid key c11 c12 c13 t w (.returned (.int .i64 t.err)) ((w2.setCell ⟨p0,3,none⟩ (.bool true)).setCell ⟨p0,4,none⟩ v)):=⟨fun t w2 v k o ht=>by
  have kS:Kp [p0] w2 ((w2.setCell ⟨p0,3,none⟩ (.bool true)).setCell ⟨p0,4,none⟩ v):=((Kp.refl _ w2).setCell (.inl (by simp)) _).setCell (.inl (by simp)) _
  exact⟨false,true,v,MV,dat,[],rfl,heap_setCell_same _ p0 4 _ _ v (heap_setCell_same w2 p0 3 _ _ (.bool true) (k.blk hp (by simp))),o.kp kS (fun g hg2=>by have:=o.2 g hg2;simp;omega),by rw[List.append_nil];exact kS.own (k.own ho (by simp)) (fun g e=>by simpa using hg g e),At.refl _ _,
   (k.mono (by simp)).trans kS (fun x hx=> .inl (by simp at hx;simp[hx])),ht,fun e=>by omega⟩⟩
 clear hn hr hnil hw hm ho hg h0 h2 hl1
 unfold jobRun at hp
 by_cases c1:n0=1
 ·subst c1
  obtain⟨wh,hwh⟩:∃b,decide (s2=some [])=b:=⟨_,rfl⟩
  have HE:As (gEnd 1 s1 dat s2=if wh=true then⟨false,true,dat,[],0⟩ else⟨false,false,[],[],3⟩):=⟨by rw[gEnd,if_pos rfl,<-hwh];simp⟩
  have HW:=As.mk (H5.out s2)
  rw[hwh] at HW
  rw[HE.out]
  clear H4 H5 HF hwh HE
  cases wh
  all_goals
   go_enter Tryz.func49,Tryz.ntmps49
   go_wp2_with (first
    |(go_at_call 86;refine H1.out.mono ?_;rintro e w1 ⟨b,g,rfl,R,hb,hgb,k1⟩;have HB:=As.mk hb;have HK1:=As.mk k1;have HNU:=As.mk (H2.out w1 b ⟨g,R,fun x hx=>(hgb x hx).1⟩);clear R hb hgb k1 H1 H2)
    |(go_at_call 87;refine HNU.out.mono ?_;rintro e w2 ⟨rfl,HR2,k2⟩;have HK2:As (Kp [] w w2):=⟨HK1.out.trans k2 (by intro x hx;simp at hx;subst hx;exact .inr HB.out)⟩;have HBY:=As.mk (H3.out w2 b HR2.out);clear k2 HNU H3 HR2)
    |(go_at_call 88;refine HBY.out.mono ?_;rintro e w3 ⟨A5,n5,c5,rfl,HO⟩;have HK3:As (Kp [] w w3):=⟨HK2.out.trans HO.out.2.2 (by intro x hx;simp at hx;subst hx;exact .inr HB.out)⟩;have b3:=HK3.out.blk hp (by simp);have d3:=bkc b3 3 rfl;have d4:=bkc b3 4 rfl;have f3:=blk_free b3 3;have f4:=blk_free b3 4;have HWO:=As.mk (HW.out ((w3.setCell ⟨p0,3,none⟩ (.bool true)).setCell ⟨p0,4,none⟩ (.slice A5 n5 c5)) b (HO.out.2.1.kp HB.out (((Kp.refl [p0] w3).setCell (.inl (by simp)) _).setCell (.inl (by simp)) _) (by intro x hx;simp at hx;subst hx;exact hpl)));clear HBY b3 HW)
    |(go_at_call 90;refine HWO.out.mono ?_;rintro e w4 ⟨rfl,rfl⟩;clear HWO))
   go_ret
   have h9:=fun t=>HS.out t _ (.slice A5 n5 c5) HK3.out (HO.out.1.lower HK2.out.size)
   first
    |exact h9 ⟨false,true,dat,[],0⟩ (fun _=>⟨rfl,rfl,rfl,rfl⟩)
    |exact h9 ⟨false,false,[],[],3⟩ (fun e=>by cases e)
 ·have c1b:((n0:Int)==1)=false:=by simp;omega
  by_cases c0:n0=0
  ·subst c0
   obtain⟨wh,hwh⟩:∃b,decide (s1=some [])=b:=⟨_,rfl⟩
   have HE:As (gEnd 0 s1 dat s2=if wh=true then⟨false,false,[],[],0⟩ else⟨false,false,[],[],3⟩):=⟨by rw[gEnd,if_neg (by omega),<-hwh];simp⟩
   have HW:=As.mk (H5.out s1)
   rw[hwh] at HW
   rw[HE.out]
   clear H3 H4 H5 HS hwh HE
   cases wh
   all_goals
    go_enter Tryz.func49,Tryz.ntmps49
    go_wp2_with (first
    |(go_at_call 86;refine H1.out.mono ?_;rintro e w1 ⟨b,g,rfl,R,hb,hgb,k1⟩;have HB:=As.mk hb;have HK1:=As.mk k1;have HNU:=As.mk (H2.out w1 b ⟨g,R,fun x hx=>(hgb x hx).1⟩);clear R hb hgb k1 H1 H2)
    |(go_at_call 87;refine HNU.out.mono ?_;rintro e w2 ⟨rfl,HR2,k2⟩;have HK2:As (Kp [] w w2):=⟨HK1.out.trans k2 (by intro x hx;simp at hx;subst hx;exact .inr HB.out)⟩;have HWO:=As.mk (HW.out w2 b HR2.out);clear k2 HNU HR2 HW)
     |(go_at_call 90;refine HWO.out.mono ?_;rintro e w4 ⟨rfl,rfl⟩;clear HWO))
    go_ret
    have h9:=fun t=>HF.out t _ HK2.out
    first
     |exact h9 ⟨false,false,[],[],0⟩ (fun _=>⟨rfl,rfl,rfl,rfl⟩)
     |exact h9 ⟨false,false,[],[],3⟩ (fun e=>by cases e)
  ·have c0b:((n0:Int) !=0)=true:=by simp;omega
   have HE:gEnd n0 s1 dat s2=⟨false,false,[],[],3⟩:=by rw[gEnd,if_neg c1,if_neg (fun e=>c0 e.1)]
   have HW:=As.mk (H5.out none)
   rw[show decide ((none:Option (List Int))=some [])=false by simp] at HW
   rw[HE]
   clear H3 H5 HS HE c1 c0
   go_enter Tryz.func49,Tryz.ntmps49
   go_wp2_with (first
    |(go_at_call 86;refine H1.out.mono ?_;rintro e w1 ⟨b,g,rfl,R,hb,hgb,k1⟩;have HB:=As.mk hb;have HK1:=As.mk k1;have HNU:=As.mk (H2.out w1 b ⟨g,R,fun x hx=>(hgb x hx).1⟩);clear R hb hgb k1 H1 H2)
    |(go_at_call 87;refine HNU.out.mono ?_;rintro e w2 ⟨rfl,HR2,k2⟩;have HK2:As (Kp [] w w2):=⟨HK1.out.trans k2 (by intro x hx;simp at hx;subst hx;exact .inr HB.out)⟩;have HBA:=As.mk (H4.out w2 b HR2.out);clear k2 HNU HR2 H4)
    |(go_at_call 89;refine HBA.out.mono ?_;rintro e w3 ⟨rfl,HR3,k3⟩;have HK3:As (Kp [] w w3):=⟨HK2.out.trans k3 (by intro x hx;simp at hx;subst hx;exact .inr HB.out)⟩;have HWO:=As.mk (HW.out w3 b HR3.out);clear k3 HBA HR3 HW)
    |(go_at_call 90;refine HWO.out.mono ?_;rintro e w4 ⟨rfl,rfl⟩;clear HWO))
   go_ret
   exact HF.out ⟨false,false,[],[],3⟩ _ HK3.out (fun e=>by cases e)
end Go.Proofs.YtdiljpdohmeceaaGreat.co
