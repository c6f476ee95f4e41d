/- Words and walks that this claim rests on: proved lemmas alone. -/
import Derived.Test.YtdiljpdohmeceaaGreatZ14
set_option maxHeartbeats 16000000
set_option maxRecDepth 100000
namespace Go.Proofs.YtdiljpdohmeceaaGreat.wir
open Go.RowKit H O opk frame co reader
theorem put3{w:World}{R E H:Nat}{t u:TypeId}{v:Value}(hR:w.heap[R]?=some (.cells #[.int .i64 0,.int .i64 0,.int .i64 0,v] t (0,0)))(hE:w.heap[E]?=some (.cells #[.int .i64 0] u (0,0)))(hH:w.heap[H]?=some (.cells #[.int .i64 0] u (0,0)))
 (h1:R≠E) (h2:R≠H) (h3:E≠H):∀(vs:List Int),vs.length<=3->
 (putAll w ([some ⟨R,0,none⟩,some ⟨E,0,none⟩,some ⟨H,0,none⟩].zip vs)).heap[R]?=some (.cells #[.int .i64 (vs.getD 0 0),.int .i64 0,.int .i64 0,v] t (0,0))/\
 (putAll w ([some ⟨R,0,none⟩,some ⟨E,0,none⟩,some ⟨H,0,none⟩].zip vs)).heap[E]?=some (.cells #[.int .i64 (vs.getD 1 0)] u (0,0))/\
 (putAll w ([some ⟨R,0,none⟩,some ⟨E,0,none⟩,some ⟨H,0,none⟩].zip vs)).heap[H]?=some (.cells #[.int .i64 (vs.getD 2 0)] u (0,0))
 |[],_=>⟨hR,hE,hH⟩
 |[a],_=>by
  refine⟨?_, ?_, ?_⟩
  ·exact heap_setCell_same w R 0 _ _ (.int .i64 a) hR
  ·exact(heap_setCell_other w ⟨R,0,none⟩ E _ (Ne.symm h1)).trans hE
  ·exact(heap_setCell_other w ⟨R,0,none⟩ H _ (Ne.symm h2)).trans hH
 |[a,b],_=>by
  have a1:=heap_setCell_same w R 0 _ _ (.int .i64 a) hR
  have a2:=(heap_setCell_other w ⟨R,0,none⟩ E (.int .i64 a) (Ne.symm h1)).trans hE
  have a3:=(heap_setCell_other w ⟨R,0,none⟩ H (.int .i64 a) (Ne.symm h2)).trans hH
  refine⟨?_, ?_, ?_⟩
  ·exact(heap_setCell_other _ ⟨E,0,none⟩ R (.int .i64 b) h1).trans a1
  ·exact heap_setCell_same _ E 0 _ _ (.int .i64 b) a2
  ·exact(heap_setCell_other _ ⟨E,0,none⟩ H (.int .i64 b) (Ne.symm h3)).trans a3
 |a::b::c::l,_=>by
  have a1:=heap_setCell_same w R 0 _ _ (.int .i64 a) hR
  have a2:=(heap_setCell_other w ⟨R,0,none⟩ E (.int .i64 a) (Ne.symm h1)).trans hE
  have a3:=(heap_setCell_other w ⟨R,0,none⟩ H (.int .i64 a) (Ne.symm h2)).trans hH
  have b1:=(heap_setCell_other _ ⟨E,0,none⟩ R (.int .i64 b) h1).trans a1
  have b2:=heap_setCell_same _ E 0 _ _ (.int .i64 b) a2
  have b3:=(heap_setCell_other _ ⟨E,0,none⟩ H (.int .i64 b) (Ne.symm h3)).trans a3
  refine⟨?_, ?_, ?_⟩
  ·exact(heap_setCell_other _ ⟨H,0,none⟩ R (.int .i64 c) h2).trans b1
  ·exact(heap_setCell_other _ ⟨H,0,none⟩ E (.int .i64 c) h3).trans b2
  ·exact heap_setCell_same _ H 0 _ _ (.int .i64 c) b3
theorem put3_far(w:World)(R E H k:Nat)(h1:k≠R)(h2:k≠E)(h3:k≠H)(vs:List Int):(putAll w ([some ⟨R,0,none⟩,some ⟨E,0,none⟩,some ⟨H,0,none⟩].zip vs)).heap[k]?=w.heap[k]?:=by
 refine putAll_far _ _ _ (fun x hx a ha=> ?_)
 have:=(List.of_mem_zip (a:=x.1) (b:=x.2) hx).1
 rw[ha] at this
 simp only[List.mem_cons,List.not_mem_nil,or_false,Option.some.injEq] at this
 rcases this with rfl|rfl|rfl
 ·exact Ne.symm h1
 ·exact Ne.symm h2
 ·exact Ne.symm h3
def drW(w:World):World:=((((w.alloc (.cells #[.int .i64 0,.int .i64 0,.int .i64 0,.slice none 0 0] 112)).alloc (.cells #[.int .i64 0,.int .i64 0,.int .i64 0,.slice none 0 0] 112)).alloc (.cells #[.int .i64 0] 3)).alloc (.cells #[.int .i64 0] 3)).alloc (.cells #[.pointer (some ⟨w.heap.size+1,0,none⟩),.pointer (some ⟨w.heap.size+1+1,0,none⟩),.pointer (some ⟨w.heap.size+1+1+1,0,none⟩)] 155)
structure DrW(w w5:World):Prop where
 size:w5.heap.size=w.heap.size+5
 q0:rp.Q4 w5 w.heap.size (.int .i64 0) (.int .i64 0) (.int .i64 0) (.slice none 0 0)
 q1:rp.Q4 w5 (w.heap.size+1) (.int .i64 0) (.int .i64 0) (.int .i64 0) (.slice none 0 0)
 e:w5.heap[w.heap.size+1+1]?=some (.cells #[.int .i64 0] 3 (0,0))
 h:w5.heap[w.heap.size+1+1+1]?=some (.cells #[.int .i64 0] 3 (0,0))
 p:w5.heap[w.heap.size+1+1+1+1]?=some (.cells #[.pointer (some ⟨w.heap.size+1,0,none⟩),.pointer (some ⟨w.heap.size+1+1,0,none⟩),.pointer (some ⟨w.heap.size+1+1+1,0,none⟩)] 155 (0,0))
 kp:Kp [] w w5
theorem drW_is(w:World):DrW w (drW w):=by
 obtain⟨w1,h1⟩:∃w1,w.alloc (.cells #[.int .i64 0,.int .i64 0,.int .i64 0,.slice none 0 0] 112)=w1:=⟨_,rfl⟩
 obtain⟨w2,h2⟩:∃w2,w1.alloc (.cells #[.int .i64 0,.int .i64 0,.int .i64 0,.slice none 0 0] 112)=w2:=⟨_,rfl⟩
 obtain⟨w3,h3⟩:∃w3,w2.alloc (.cells #[.int .i64 0] 3)=w3:=⟨_,rfl⟩
 obtain⟨w4,h4⟩:∃w4,w3.alloc (.cells #[.int .i64 0] 3)=w4:=⟨_,rfl⟩
 have s1:w1.heap.size=w.heap.size+1:=by rw[<-h1,World.size_alloc]
 have s2:w2.heap.size=w.heap.size+1+1:=by rw[<-h2,World.size_alloc,s1]
 have s3:w3.heap.size=w.heap.size+1+1+1:=by rw[<-h3,World.size_alloc,s2]
 have s4:w4.heap.size=w.heap.size+1+1+1+1:=by rw[<-h4,World.size_alloc,s3]
 have b1:=heap_alloc_new w (.cells #[.int .i64 0,.int .i64 0,.int .i64 0,.slice none 0 0] 112)
 rw[h1] at b1
 have b2:=heap_alloc_new w1 (.cells #[.int .i64 0,.int .i64 0,.int .i64 0,.slice none 0 0] 112)
 rw[h2,s1] at b2
 have b3:=heap_alloc_new w2 (.cells #[.int .i64 0] 3)
 rw[h3,s2] at b3
 have b4:=heap_alloc_new w3 (.cells #[.int .i64 0] 3)
 rw[h4,s3] at b4
 have c1:=blk_alloc (blk_alloc (blk_alloc b1 (.cells #[.int .i64 0,.int .i64 0,.int .i64 0,.slice none 0 0] 112)) (.cells #[.int .i64 0] 3)) (.cells #[.int .i64 0] 3)
 rw[h2,h3,h4] at c1
 have c2:=blk_alloc (blk_alloc b2 (.cells #[.int .i64 0] 3)) (.cells #[.int .i64 0] 3)
 rw[h3,h4] at c2
 have c3:=blk_alloc b3 (.cells #[.int .i64 0] 3)
 rw[h4] at c3
 unfold drW
 rw[h1,h2,h3,h4]
 refine⟨by rw[World.size_alloc,s4],blk_alloc c1 _,blk_alloc c2 _,blk_alloc c3 _,blk_alloc b4 _,by rw[<-s4];exact heap_alloc_new w4 _, ?_⟩
 rw[<-h4,<-h3,<-h2,<-h1]
 exact(((((Kp.refl [] w).alloc _).alloc _).alloc _).alloc _).alloc _
def DWR(xs:List Int)(w:World)(e:Ending)(w':World):Prop:=
 ∃A n c,e= .returned (.tuple #[.agg #[.int .i64 (dWRep xs).1.ctx,.int .i64 (dWRep xs).1.err,.int .i64 (dWRep xs).1.hint,.slice A n c],.int .i64 (dWRep xs).2])/\Own 5 .u8 w' w.heap.size (.slice A n c) (dWRep xs).1.data/\Kp [] w w'
structure DrR(w w6:World)(x0 x1 x2:Int)(D:Value)(dat:List Int):Prop where
 q0:rp.Q4 w6 w.heap.size (.int .i64 0) (.int .i64 0) (.int .i64 0) (.slice none 0 0)
 q1:rp.Q4 w6 (w.heap.size+1) (.int .i64 x0) (.int .i64 0) (.int .i64 0) (.slice none 0 0)
 e:w6.heap[w.heap.size+1+1]?=some (.cells #[.int .i64 x1] 3 (0,0))
 h:w6.heap[w.heap.size+1+1+1]?=some (.cells #[.int .i64 x2] 3 (0,0))
 kp:Kp [] w w6
 own:Own 5 .u8 w6 (w.heap.size+5) D dat
theorem DrW.read{w w5:World}(W:DrW w w5)(A:Option Addr)(n c:Nat)(xs:List Int)(hn:xs.length=n)(hr:Rd w A (iv .u8 xs))(hc:n<=c)(hw:Wf xs)(hm:n<=140737488351232):
 Calls Tryz.prog 83 #[.slice A n c,.int .u8 114,.int .i64 524288,.slice (some ⟨w.heap.size+1+1+1+1,0,none⟩) 3 3] w5 fun e w6=>∃A1 n1 c1 x0 x1 x2,e= .returned (.tuple #[.slice A1 n1 c1,.int .i64 (rd3 114 524288 xs).2.2])/\0<=x2/\x2<=4611686018427387904/\
  As (DrR w w6 x0 x1 x2 (.slice A1 n1 c1) (rd3 114 524288 xs).2.1/\((rd3 114 524288 xs).2.2=0->x0=(rd3 114 524288 xs).1.getD 0 0/\x1=(rd3 114 524288 xs).1.getD 1 0/\x2=(rd3 114 524288 xs).1.getD 2 0)):=by
 have hz:=W.size
 refine(read_any A n c xs 114 524288 (w.heap.size+1+1+1+1) [some ⟨w.heap.size+1,0,none⟩,some ⟨w.heap.size+1+1,0,none⟩,some ⟨w.heap.size+1+1+1,0,none⟩] w5 hn (W.kp.rd_new hr (by simp)) hc hw hm rfl (fun j v hv=> ?_) (fun p hp q hpq=> ?_)).mono ?_
 ·refine⟨_,rfl, ?_⟩
  rw[Addr.add_lit]
  have:=bkc W.p j (v:=v) (by simpa using hv)
  simpa using this
 ·subst hpq
  simp only[List.mem_cons,List.not_mem_nil,or_false,Option.some.injEq] at hp
  rcases hp with rfl|rfl|rfl
  ·exact⟨by show w.heap.size+1≠_;omega,⟨⟨0,W.q1.cells.1⟩,W.q1.free 0⟩⟩
  ·exact⟨by show w.heap.size+1+1≠_;omega,⟨⟨0,bkc W.e 0 rfl⟩,blk_free W.e 0⟩⟩
  ·exact⟨by show w.heap.size+1+1+1≠_;omega,⟨⟨0,bkc W.h 0 rfl⟩,blk_free W.h 0⟩⟩
 ·rintro e w6 ⟨D,vs,rfl,o,hl,hb,hv,o1,o2,o3,o4,o5⟩
  obtain⟨A1,c1,rfl,_⟩:=own_rd o.1
  have P:=put3 W.q1 W.e W.h (by omega) (by omega) (by omega) vs hl
  refine⟨A1,_,c1,vs.getD 0 0,vs.getD 1 0,vs.getD 2 0,rfl, ?_, ?_,⟨⟨?_, ?_, ?_, ?_, ?_, ?_⟩,fun e0=>by rw[hv e0];exact⟨rfl,rfl,rfl⟩⟩⟩
  ·by_cases h2:2<vs.length
   ·have:=hb vs[2] (List.getElem_mem h2);simpa [List.getD,h2] using this.1
   ·simp[List.getD,List.getElem?_eq_none (by omega:vs.length<=2)]
  ·by_cases h2:2<vs.length
   ·have:=hb vs[2] (List.getElem_mem h2);simpa [List.getD,h2] using this.2
   ·simp[List.getD,List.getElem?_eq_none (by omega:vs.length<=2)]
  ·exact(o5 _ (by omega)).trans ((put3_far w5 _ _ _ _ (by omega) (by omega) (by omega) vs).trans W.q0)
  ·exact(o5 _ (by omega)).trans P.1
  ·exact(o5 _ (by omega)).trans P.2.1
  ·exact(o5 _ (by omega)).trans P.2.2
  ·refine⟨o1.trans W.kp.os,o2.trans W.kp.tape,o3.trans W.kp.output,by omega,fun k hk _=> ?_⟩
   rw[o5 k (by omega),put3_far w5 _ _ _ k (by omega) (by omega) (by omega) vs]
   exact W.kp.block k hk (by simp)
  ·rw[hz] at o
   exact o
theorem dWRep_err{xs:List Int}{er:Int}(h:(rd3 114 524288 xs).2.2=er)(h0:er≠0):dWRep xs=(⟨0,0,0,[]⟩,er):=by rw[dWRep,if_pos (by rw[h];exact h0),h]
theorem decodeReply_err(A:Option Addr)(n c:Nat)(xs:List Int)(er:Int)(w:World)(hn:xs.length=n)(hr:Rd w A (iv .u8 xs))(hc:n<=c)(hw:Wf xs)(hm:n<=140737488351232)(he:(rd3 114 524288 xs).2.2=er)(h0:er≠0):
 Calls Tryz.prog 44 #[.slice A n c] w (DWR xs w):=by
 have HD:=As.mk (dWRep_err he h0)
 have HRD:=As.mk ((drW_is w).read A n c xs hn hr hc hw hm)
 rw[he] at HRD
 have bne:(er==0)=false:=by simpa using h0
 clear hn hr hc hw hm he h0
 unfold drW at HRD
 go_enter Tryz.func44,Tryz.ntmps44
 go_wp2_with (go_at_call 83;refine HRD.out.mono ?_;rintro e w6 ⟨A1,n1,c1,x0,x1,x2,rfl,hx0,hx2,HZ⟩;obtain⟨q0,q1,q2,q3⟩:=HZ.out.1.q0.cells;have f0:=HZ.out.1.q0.free 0;have f1:=HZ.out.1.q0.free 1;have f2:=HZ.out.1.q0.free 2;have f3:=HZ.out.1.q0.free 3;obtain⟨r0,r1,r2,r3⟩:=HZ.out.1.q1.cells;have g1:=HZ.out.1.q1.free 1;have g2:=HZ.out.1.q1.free 2;have p0:=bkc HZ.out.1.e 0 rfl;have p1:=bkc HZ.out.1.h 0 rfl;clear HRD)
 have kS:Kp [w.heap.size+1] w6 ((w6.setCell ⟨w.heap.size+1,1,none⟩ (.int .i64 x1)).setCell ⟨w.heap.size+1,2,none⟩ (.int .i64 (x2-1))):=((Kp.refl _ w6).setCell (.inl (by simp)) _).setCell (.inl (by simp)) _
 have hz:=(HZ.out.1.q0.kp kS (by simp)).set (.int .i64 0) (.int .i64 0) (.int .i64 0) (.slice none 0 0)
 (try simp only[Exit.inBlock,Exit.then])
 refine bodyPost_ret (hz.1.res rfl rfl) rfl ?_
 refine⟨none,0,0,by rw[HD.out];rfl,by rw[HD.out];exact Own.nil _ _ _ _,(HZ.out.1.kp.trans kS (by intro x hx;simp at hx;right;omega)).trans hz.2 (by intro x hx;simp at hx;right;omega)⟩
theorem dWRep_no{xs:List Int}{y0 y1 y2:Int}(h:(rd3 114 524288 xs).2.2=0)(e0:(rd3 114 524288 xs).1.getD 0 0=y0)(e1:(rd3 114 524288 xs).1.getD 1 0=y1)(e2:(rd3 114 524288 xs).1.getD 2 0=y2)(hb:wrOk y0 y1 (y2-1)=false):dWRep xs=(⟨0,0,0,[]⟩,3):=by
 rw[dWRep,if_neg (by rw[h];simp),e0,e1,e2,if_neg (by rw[hb];simp)]
theorem dWRep_ok{xs:List Int}{y0 y1 y2:Int}(h:(rd3 114 524288 xs).2.2=0)(e0:(rd3 114 524288 xs).1.getD 0 0=y0)(e1:(rd3 114 524288 xs).1.getD 1 0=y1)(e2:(rd3 114 524288 xs).1.getD 2 0=y2)(hb:wrOk y0 y1 (y2-1)=true):dWRep xs=(⟨y0,y1,y2-1,(rd3 114 524288 xs).2.1⟩,0):=by
 rw[dWRep,if_neg (by rw[h];simp),e0,e1,e2,if_pos hb]
theorem decodeReply_zero(A:Option Addr)(n c:Nat)(xs:List Int)(w:World)(hn:xs.length=n)(hr:Rd w A (iv .u8 xs))(hc:n<=c)(hw:Wf xs)(hm:n<=140737488351232)(he:(rd3 114 524288 xs).2.2=0):
 Calls Tryz.prog 44 #[.slice A n c] w (DWR xs w):=by
 obtain⟨y0,h0⟩:∃y,(rd3 114 524288 xs).1.getD 0 0=y:=⟨_,rfl⟩
 obtain⟨y1,h1⟩:∃y,(rd3 114 524288 xs).1.getD 1 0=y:=⟨_,rfl⟩
 obtain⟨y2,h2⟩:∃y,(rd3 114 524288 xs).1.getD 2 0=y:=⟨_,rfl⟩
 obtain⟨dat,hd⟩:∃y,(rd3 114 524288 xs).2.1=y:=⟨_,rfl⟩
 obtain⟨b,hb⟩:∃b,wrOk y0 y1 (y2-1)=b:=⟨_,rfl⟩
 have HRD:As (Calls Tryz.prog 83 #[.slice A n c,.int .u8 114,.int .i64 524288,.slice (some ⟨w.heap.size+1+1+1+1,0,none⟩) 3 3] (drW w) fun e w6=>∃A1 n1 c1,e= .returned (.tuple #[.slice A1 n1 c1,.int .i64 0])/\0<=y2/\y2<=4611686018427387904/\As (DrR w w6 y0 y1 y2 (.slice A1 n1 c1) dat)):=⟨by
  refine((drW_is w).read A n c xs hn hr hc hw hm).mono ?_
  rintro e w6 ⟨A1,n1,c1,x0,x1,x2,rfl,hx0,hx2,HZ⟩
  obtain⟨e0,e1,e2⟩:=HZ.out.2 he
  rw[h0] at e0
  rw[h1] at e1
  rw[h2] at e2
  subst e0 e1 e2
  rw[<-hd]
  exact⟨A1,n1,c1,by rw[he],hx0,hx2,⟨HZ.out.1⟩⟩⟩
 have HMY:As (∀v wX,Calls Tryz.prog 84 #[.agg #[.int .i64 y0,.int .i64 y1,.int .i64 (y2-1),v]] wX fun e w'=>e= .returned (.bool b)/\Kp [] wX w'):=⟨fun v wX=>by rw[<-hb];exact pmay_any y0 y1 (y2-1) v wX⟩
 have HDN:As (b=false->dWRep xs=(⟨0,0,0,[]⟩,3)):=⟨fun e=>dWRep_no he h0 h1 h2 (by rw[hb];exact e)⟩
 have HDO:As (b=true->dWRep xs=(⟨y0,y1,y2-1,dat⟩,0)):=⟨fun e=>by rw[<-hd];exact dWRep_ok he h0 h1 h2 (by rw[hb];exact e)⟩
 clear hn hr hc hw hm he h0 h1 h2 hd hb
 unfold drW at HRD
 go_enter Tryz.func44,Tryz.ntmps44
 go_upto_region 5 with(go_at_call 83;refine HRD.out.mono ?_;rintro e w6 ⟨A1,n1,c1,rfl,hx0,hx2,HZ⟩;obtain⟨r0,r1,r2,r3⟩:=HZ.out.q1.cells;have g1:=HZ.out.q1.free 1;have g2:=HZ.out.q1.free 2;have p0:=bkc HZ.out.e 0 rfl;have p1:=bkc HZ.out.h 0 rfl;clear HRD)
 obtain⟨w7,hw7⟩:∃w7,(w6.setCell ⟨w.heap.size+1,1,none⟩ (.int .i64 y1)).setCell ⟨w.heap.size+1,2,none⟩ (.int .i64 (y2-1))=w7:=⟨_,rfl⟩
 have HQ:As (rp.Q4 w7 w.heap.size (.int .i64 0) (.int .i64 0) (.int .i64 0) (.slice none 0 0)/\rp.Q4 w7 (w.heap.size+1) (.int .i64 y0) (.int .i64 y1) (.int .i64 (y2-1)) (.slice none 0 0)/\Kp [] w w7/\Own 5 .u8 w7 (w.heap.size+5) (.slice A1 n1 c1) dat):=⟨by
  have kS:Kp [w.heap.size+1] w6 w7:=by rw[<-hw7];exact((Kp.refl _ w6).setCell (.inl (by simp)) _).setCell (.inl (by simp)) _
  refine⟨HZ.out.q0.kp kS (by simp), ?_,HZ.out.kp.trans kS (by intro x hx;simp at hx;right;omega),HZ.out.own.kp kS (fun g hg=>by have:=HZ.out.own.2 g hg;simp;omega)⟩
  rw[<-hw7]
  have a1:=heap_setCell_same w6 (w.heap.size+1) 1 _ _ (.int .i64 y1) HZ.out.q1
  exact heap_setCell_same _ (w.heap.size+1) 2 _ _ (.int .i64 (y2-1)) a1⟩
 rw[hw7]
 clear hw7 r0 r1 r2 r3 g1 g2 p0 p1 HZ
 obtain⟨r0,r1,r2,r3⟩:=HQ.out.2.1.cells
 cases b
 ·go_wp2_with (go_at_call 84;refine(HMY.out _ _).mono ?_;rintro e w8 ⟨rfl,k8⟩;have HK8:=As.mk k8;obtain⟨q0,q1,q2,q3⟩:=(HQ.out.1.kp k8 (by simp)).cells;have f0:=(HQ.out.1.kp k8 (by simp)).free 0;have f1:=(HQ.out.1.kp k8 (by simp)).free 1;have f2:=(HQ.out.1.kp k8 (by simp)).free 2;have f3:=(HQ.out.1.kp k8 (by simp)).free 3;clear k8 HMY)
  have hz:=(HQ.out.1.kp HK8.out (by simp)).set (.int .i64 0) (.int .i64 0) (.int .i64 0) (.slice none 0 0)
  (try simp only[Exit.inBlock,Exit.then])
  refine bodyPost_ret (hz.1.res rfl rfl) rfl ?_
  have e:=HDN.out (by simp)
  exact⟨none,0,0,by rw[e];rfl,by rw[e];exact Own.nil _ _ _ _,(HQ.out.2.2.1.trans HK8.out (by simp)).trans hz.2 (by intro x hx;simp at hx;right;omega)⟩
 ·go_wp2_with (go_at_call 84;refine(HMY.out _ _).mono ?_;rintro e w8 ⟨rfl,k8⟩;have HK8:=As.mk k8;obtain⟨q0,q1,q2,q3⟩:=(HQ.out.1.kp k8 (by simp)).cells;have f0:=(HQ.out.1.kp k8 (by simp)).free 0;have f1:=(HQ.out.1.kp k8 (by simp)).free 1;have f2:=(HQ.out.1.kp k8 (by simp)).free 2;have f3:=(HQ.out.1.kp k8 (by simp)).free 3;obtain⟨t0,t1,t2,t3⟩:=(HQ.out.2.1.kp k8 (by simp)).cells;have v3:=(HQ.out.2.1.kp k8 (by simp)).free 3;clear k8 HMY)
  have kS:Kp [w.heap.size+1] w8 (w8.setCell ⟨w.heap.size+1,3,none⟩ (.slice A1 n1 c1)):=(Kp.refl _ w8).setCell (.inl (by simp)) _
  have hz:=((HQ.out.1.kp HK8.out (by simp)).kp kS (by simp)).set (.int .i64 y0) (.int .i64 y1) (.int .i64 (y2-1)) (.slice A1 n1 c1)
  (try simp only[Exit.inBlock,Exit.then])
  refine bodyPost_ret (hz.1.res rfl rfl) rfl ?_
  have e:=HDO.out (by simp)
  refine⟨A1,n1,c1,by rw[e];rfl, ?_,((HQ.out.2.2.1.trans HK8.out (by simp)).trans kS (by intro x hx;simp at hx;right;omega)).trans hz.2 (by intro x hx;simp at hx;right;omega)⟩
  rw[e]
  have o:=HQ.out.2.2.2
  exact(((o.kp HK8.out (by simp)).kp kS (fun g hg=>by have:=o.2 g hg;simp;omega)).kp hz.2 (fun g hg=>by have:=o.2 g hg;simp;omega)).lower (by omega)
theorem decodeReply_any(A:Option Addr)(n c:Nat)(xs:List Int)(w:World)(hn:xs.length=n)(hr:Rd w A (iv .u8 xs))(hc:n<=c)(hw:Wf xs)(hm:n<=140737488351232):
 Calls Tryz.prog 44 #[.slice A n c] w (DWR xs w):=by
 by_cases h:(rd3 114 524288 xs).2.2=0
 ·exact decodeReply_zero A n c xs w hn hr hc hw hm h
 ·exact decodeReply_err A n c xs _ w hn hr hc hw hm rfl h
end Go.Proofs.YtdiljpdohmeceaaGreat.wir
namespace Go.Proofs.YtdiljpdohmeceaaGreat.ref22
open Go.RowKit H O opk frame co wir joins
def rpErr(k c s:Int)(n:Nat):Int:=if wrOk k c s=false then 1 else if 524288<n then 5 else 0
theorem wrOk_iff{k c s:Int}:wrOk k c s=true↔(0<=k/\k<=1099511627776)/\(0<=c/\c<=100)/\(-1<=s/\s<=255):=by
 unfold wrOk
 simp only[Bool.and_eq_true,decide_eq_true_eq]
 exact⟨fun h=>⟨h.1.1,h.1.2,h.2⟩,fun h=>⟨⟨h.1,h.2.1⟩,h.2.2⟩⟩
theorem rpErr_one{k c s:Int}(n:Nat)(h:¬((0<=k/\k<=1099511627776)/\(0<=c/\c<=100)/\(-1<=s/\s<=255))):rpErr k c s n=1:=by
 rw[rpErr,if_pos]
 rw[Bool.eq_false_iff]
 exact fun e=>h (wrOk_iff.1 e)
theorem may_any(k c s:Int)(A:Option Addr)(n cp:Nat)(w:World):Calls Tryz.prog 40 #[.agg #[.int .i64 k,.int .i64 c,.int .i64 s,.slice A n cp]] w fun e w'=>e= .returned (.int .i64 (rpErr k c s n))/\Kp [] w w':=by
 have HK:As (Kp [] w (w.alloc (.cells #[.int .i64 k,.int .i64 c,.int .i64 s,.slice A n cp] 55))):=⟨(Kp.refl [] w).alloc _⟩
 by_cases a1:k<0
 ·have HR:=As.mk (rpErr_one (k:=k) (c:=c) (s:=s) n (by omega))
  rw[HR.out]
  go_enter Tryz.func40,Tryz.ntmps40
  go_wp2
  go_ret
  exact⟨rfl,HK.out⟩
 by_cases a2:1099511627776<k
 ·have HR:=As.mk (rpErr_one (k:=k) (c:=c) (s:=s) n (by omega))
  rw[HR.out]
  go_enter Tryz.func40,Tryz.ntmps40
  go_wp2
  go_ret
  exact⟨rfl,HK.out⟩
 by_cases a3:c<0
 ·have HR:=As.mk (rpErr_one (k:=k) (c:=c) (s:=s) n (by omega))
  rw[HR.out]
  go_enter Tryz.func40,Tryz.ntmps40
  go_wp2
  go_ret
  exact⟨rfl,HK.out⟩
 by_cases a4:100<c
 ·have HR:=As.mk (rpErr_one (k:=k) (c:=c) (s:=s) n (by omega))
  rw[HR.out]
  go_enter Tryz.func40,Tryz.ntmps40
  go_wp2
  go_ret
  exact⟨rfl,HK.out⟩
 by_cases a5:s< -1
 ·have HR:=As.mk (rpErr_one (k:=k) (c:=c) (s:=s) n (by omega))
  rw[HR.out]
  go_enter Tryz.func40,Tryz.ntmps40
  go_wp2
  go_ret
  exact⟨rfl,HK.out⟩
 by_cases a6:255<s
 ·have HR:=As.mk (rpErr_one (k:=k) (c:=c) (s:=s) n (by omega))
  rw[HR.out]
  go_enter Tryz.func40,Tryz.ntmps40
  go_wp2
  go_ret
  exact⟨rfl,HK.out⟩
 have hk:wrOk k c s=true:=wrOk_iff.2 (by omega)
 by_cases a7:(524288:Int)<(n:Int)
 ·have HR:As (rpErr k c s n=5):=⟨by rw[rpErr,if_neg (by rw[hk];simp),if_pos (by omega)]⟩
  rw[HR.out]
  clear hk
  go_enter Tryz.func40,Tryz.ntmps40
  go_wp2
  go_ret
  exact⟨rfl,HK.out⟩
 ·have HR:As (rpErr k c s n=0):=⟨by rw[rpErr,if_neg (by rw[hk];simp),if_neg (by omega)]⟩
  rw[HR.out]
  clear hk
  go_enter Tryz.func40,Tryz.ntmps40
  go_wp2
  go_ret
  exact⟨rfl,HK.out⟩
end Go.Proofs.YtdiljpdohmeceaaGreat.ref22
namespace Go.Proofs.YtdiljpdohmeceaaGreat.rpr
open Go.RowKit H O
def Q4(w:World)(R:Nat)(a b c v:Value):Prop:=w.heap[R]?=some (.cells #[a,b,c,v] 55)
theorem Q4.cells{w:World}{R:Nat}{a b c v:Value}(h:Q4 w R a b c v):w.cell? ⟨R,0,none⟩=some a/\w.cell? ⟨R,1,none⟩=some b/\w.cell? ⟨R,2,none⟩=some c/\w.cell? ⟨R,3,none⟩=some v:=⟨bkc h 0 rfl,bkc h 1 rfl,bkc h 2 rfl,bkc h 3 rfl⟩
theorem Q4.new(w:World)(a b c v:Value):Q4 (w.alloc (.cells #[a,b,c,v] 55)) w.heap.size a b c v:=heap_alloc_new w _
theorem Q4.kp{S:List Nat}{w w1:World}{R:Nat}{a b c v:Value}(h:Q4 w R a b c v)(hk:Kp S w w1)(hb:R∉S):Q4 w1 R a b c v:=hk.blk h hb
theorem Q4.free{w:World}{R:Nat}{a b c v:Value}(h:Q4 w R a b c v)(j:Nat):w.frozen? ⟨R,j,none⟩=false:=blk_free h j
theorem Q4.res{fn:Func}{tmps:Array Value}{w:World}{R:Nat}{a b c v:Value}(h:Q4 w R a b c v)(hf:fn.results= #[.cell 2 55,.tmp 3])(h2:tmps.getD 2 undef= .pointer (some ⟨R,0,none⟩)):
 (results fn tmps).run Tryz.prog w= .ok (.tuple #[.agg #[a,b,c,v],tmps.getD 3 undef]) w:=by
 have hl:=run_loadVar_row (P:=Tryz.prog) w R 55 55 _ (0,0) _ h Tryz.underlying55 rfl (by kernel_rfl)
 rw[results_cell_tmp hf,h2]
 simp[asAddr,hl,Result.andThen]
theorem Q4.set{w:World}{R:Nat}{a b c v:Value}(h:Q4 w R a b c v)(a2 b2 c2 v2:Value):
 Q4 ((((w.setCell ⟨R,0,none⟩ a2).setCell ⟨R,1,none⟩ b2).setCell ⟨R,2,none⟩ c2).setCell ⟨R,3,none⟩ v2) R a2 b2 c2 v2/\Kp [R] w ((((w.setCell ⟨R,0,none⟩ a2).setCell ⟨R,1,none⟩ b2).setCell ⟨R,2,none⟩ c2).setCell ⟨R,3,none⟩ v2):=by
 have e1:Q4 (w.setCell ⟨R,0,none⟩ a2) R a2 b c v:=heap_setCell_same w R 0 _ _ a2 h
 have e2:Q4 ((w.setCell ⟨R,0,none⟩ a2).setCell ⟨R,1,none⟩ b2) R a2 b2 c v:=heap_setCell_same _ R 1 _ _ b2 e1
 have e3:Q4 (((w.setCell ⟨R,0,none⟩ a2).setCell ⟨R,1,none⟩ b2).setCell ⟨R,2,none⟩ c2) R a2 b2 c2 v:=heap_setCell_same _ R 2 _ _ c2 e2
 exact⟨heap_setCell_same _ R 3 _ _ v2 e3,((((Kp.refl _ w).setCell (.inl (by simp)) _).setCell (.inl (by simp)) _).setCell (.inl (by simp)) _).setCell (.inl (by simp)) _⟩
end Go.Proofs.YtdiljpdohmeceaaGreat.rpr
namespace Go.Proofs.YtdiljpdohmeceaaGreat.ref22
open Go.RowKit H O opk frame co wir joins
theorem encReply_ok(k c s:Int)(A:Option Addr)(n cp:Nat)(xs:List Int)(w:World)(hn:xs.length=n)(hr:Rd w A (iv .u8 xs))(hnil:A=none->cp=0)(hw:Wf xs)(hn9:n<=500000)(hk:0<=k/\k<=1099511627776)(hc:0<=c/\c<=100)(hs: -1<=s/\s<=255)(N:Nat)(hN:N=(pay 114 [k,c,s+1] xs).length+12):
 Calls Tryz.prog 15 #[.agg #[.int .i64 k,.int .i64 c,.int .i64 s,.slice A n cp]] w fun e w'=>∃A1 c1,e= .returned (.tuple #[.slice A1 N c1,.int .i64 0])/\Acc w w' (.slice A1 N c1) N (fEnc (pay 114 [k,c,s+1] xs))/\N<=c1:=by
 obtain⟨s1,hs1⟩:∃x,s+1=x:=⟨_,rfl⟩
 rw[hs1] at hN⊢
 obtain⟨X1,hX1⟩:∃X,X=nums [k,c,s1]:=⟨_,rfl⟩
 obtain⟨R1,hR1⟩:∃R,X1.length=R:=⟨_,rfl⟩
 obtain⟨T1,hT1⟩:∃T,T=1+R1:=⟨_,rfl⟩
 obtain⟨Y2,hY2⟩:∃Y,Y=row xs:=⟨_,rfl⟩
 obtain⟨R2,hR2⟩:∃R,Y2.length=R:=⟨_,rfl⟩
 obtain⟨T2,hT2⟩:∃T,T=T1+R2:=⟨_,rfl⟩
 obtain⟨P,hP⟩:∃P,pay 114 [k,c,s1] xs=P:=⟨_,rfl⟩
 rw[hP] at hN⊢
 have hl1:R1<=100:=by have:=pay_len 114 [k,c,s1] [] (by simp);rw[pay] at this;rw[<-hR1,hX1];simp only[List.length_append,List.length_nil,List.length_cons] at this;omega
 have hl2:R2<=600000:=by have:=haystacklaw13.row_len xs;rw[<-hR2,hY2];omega
 have hPe:[114]++X1++Y2=P:=by rw[<-hP,hX1,hY2,pay];rfl
 have hPL:P.length=T2:=by rw[<-hPe,List.length_append,List.length_append,hR1,hR2,hT2,hT1];rfl
 have hPW:Wf P:=by rw[<-hP];exact pay_wf (by omega) hw
 have HPE:=As.mk hPe
 have hNT:N=T2+12:=by omega
 have HMY:As (∀wX,Calls Tryz.prog 40 #[.agg #[.int .i64 k,.int .i64 c,.int .i64 s,.slice A n cp]] wX fun e w'=>e= .returned (.int .i64 0)/\Kp [] wX w'):=⟨fun wX=>by
  have:=may_any k c s A n cp wX
  rwa[show rpErr k c s n=0 by rw[rpErr,if_neg (by rw[wrOk_iff.2 ⟨hk,hc,hs⟩];simp),if_neg (by omega)]] at this⟩
 have HK1:=As.mk ((Kp.refl [] w).alloc (.cells #[.int .i64 k,.int .i64 c,.int .i64 s,.slice A n cp] 55))
 have HQ1:=As.mk (rpr.Q4.new w (.int .i64 k) (.int .i64 c) (.int .i64 s) (.slice A n cp))
 have HNU:As (∀wX b,b=wX.heap.size->Calls Tryz.prog 41 #[.slice (some ⟨b,0,none⟩) 3 3] (wX.alloc (.cells #[.int .i64 k,.int .i64 c,.int .i64 s1] 3)) fun e w'=>∃A3 c3,e= .returned (.slice A3 R1 c3)/\Rd w' A3 (iv .u8 X1)/\(A3=none->c3=0)/\Kp [] wX w'):=⟨fun wX b hb=>by
  subst hb
  refine(ref.nums_any (some ⟨wX.heap.size,0,none⟩) 3 3 [k,c,s1] _ rfl (rd_new wX (iv .i64 [k,c,s1]) 3) (by decide)).mono ?_
  rintro e w' ⟨v,rfl,o,kk⟩
  rw[<-hX1] at o
  obtain⟨A3,c3,rfl,_,_,r3,n3⟩:=own_rd o.1
  rw[hR1]
  exact⟨A3,c3,rfl,r3,n3,((Kp.refl [] wX).alloc _).trans kk (by simp)⟩⟩
 have HBY:As (∀(wX:World),Kp [] w wX->Calls Tryz.prog 43 #[.slice A n cp] wX fun e w'=>∃A5 c5,e= .returned (.slice A5 R2 c5)/\Rd w' A5 (iv .u8 Y2)/\(A5=none->c5=0)/\Kp [] wX w'):=⟨fun wX kX=>by
  refine(ref.bytes_any A n cp xs wX hn (kX.rd_new hr (by simp)) hnil (by omega)).mono ?_
  rintro e w' ⟨v,rfl,o,kk⟩
  rw[<-hY2] at o
  obtain⟨A5,c5,rfl,_,_,r5,n5⟩:=own_rd o.1
  rw[hR2]
  exact⟨A5,c5,rfl,r5,n5,kk⟩⟩
 have hT9:T2<=700000:=by omega
 have hT8:T1<=200:=by omega
 have HEN:As (∀wX A6 c6,Acc w wX (.slice A6 T2 c6) T2 P->Calls Tryz.prog 42 #[.slice A6 T2 c6] wX fun e w'=>∃A1 c1,e= .returned (.tuple #[.slice A1 N c1,.int .i64 0])/\As (Acc w w' (.slice A1 N c1) N (fEnc P)/\N<=c1)):=⟨fun wX A6 c6 h=>by
  obtain⟨A7,c7,e7,_,_,r7,n7⟩:=own_rd h.own
  cases e7
  refine(ref8.enc_any A6 T2 c6 P wX hPL r7 n7 hPW (by omega) N hNT).mono ?_
  rintro e w' ⟨A1,c1,rfl,a,hc1⟩
  exact⟨A1,c1,rfl,⟨⟨a.own,fun g hg=>Nat.le_trans h.kp.size (a.lo g hg),h.kp.trans a.kp (by simp)⟩,hc1⟩⟩⟩
 have HR1:=As.mk hR1
 have HR2:=As.mk hR2
 have HT1:=As.mk hT1
 have HT2:=As.mk hT2
 clear hr hn hnil hw hX1 hR1 hT1 hY2 hR2 hT2 hP hPe hPL hPW hN hNT
 go_enter Tryz.func15,Tryz.ntmps15
 go_wp2_with (first
  |(go_at_call 40;refine(HMY.out _).mono ?_;rintro e w2 ⟨rfl,k2⟩;have HK2:As (Kp [] w w2):=⟨HK1.out.trans k2 (by simp)⟩;have HQ2:=As.mk (HQ1.out.kp k2 (by simp));have HS2:As (w.heap.size<w2.heap.size):=⟨lt_of_block HQ2.out⟩;obtain⟨x0,x1,x2,x3⟩:=(HQ2.out.kp ((Kp.refl [] w2).alloc (.cells #[.int .u8 114] 5)) (by simp)).cells;clear k2 HMY)
  |(go_at_call 41;refine(HNU.out _ _ (by simp)).mono ?_;rintro e w3 ⟨A3,c3,rfl,r3,n3,k3⟩;have HR3:=As.mk r3;have HN3:=As.mk n3;have HA3:As (Acc w w3 (.slice (some ⟨w2.heap.size,0,none⟩) 1 1) 1 [114]):=⟨Acc.keep ⟨own_new w2 [.int .u8 114] _ (by decide),by have:=HK2.out.size;intro g hg;simp[Value.ownBlock] at hg;omega,HK2.out.alloc _⟩ k3⟩;have HQ3:=As.mk ((HQ2.out.kp ((Kp.refl [] w2).alloc (.cells #[.int .u8 114] 5)) (by simp)).kp k3 (by simp));clear r3 n3 k3 HNU x0 x1 x2 x3)
  |(at_builtin;refine clone.app8 rfl (.tmp 11) (.tmp 20) rfl (.slice (some ⟨w2.heap.size,0,none⟩) 1 1) 1 (iv .u8 [114]) rfl HA3.out.own A3 R1 c3 (iv .u8 X1) rfl (by rw[iv_len,HR1.out]) HR3.out HN3.out (iv_one _ _) (by omega) ?_;intro v4 w4 o4 k4 a4;have h4:=HA3.out.more o4 k4 a4 HT1.out;obtain⟨A4,c4,rfl,_,_,_,_⟩:=own_rd h4.own;have HA4:=As.mk h4;have HB4:=As.mk (HBY.out w4 h4.kp);obtain⟨y0,y1,y2,y3⟩:=(HQ3.out.kp k4 (by have:=HS2.out;simp[Value.ownBlock];omega)).cells;clear o4 k4 a4 h4 HBY HA3)
  |(go_at_call 43;refine HB4.out.mono ?_;rintro e w5 ⟨A5,c5,rfl,r5,n5,k5⟩;have HR5:=As.mk r5;have HN5:=As.mk n5;have HA5:=As.mk (HA4.out.keep k5);clear r5 n5 k5 HB4 HA4)
  |(at_builtin;refine clone.app8 rfl (.tmp 22) (.tmp 25) rfl (.slice A4 T1 c4) T1 (iv .u8 ([114]++X1)) rfl HA5.out.own A5 R2 c5 (iv .u8 Y2) rfl (by rw[iv_len,HR2.out]) HR5.out HN5.out (iv_one _ _) (by omega) ?_;intro v6 w6 o6 k6 a6;have h6:=HA5.out.more o6 k6 a6 HT2.out;rw[HPE.out] at h6;obtain⟨A6,c6,rfl,_,_,_,_⟩:=own_rd h6.own;have HE6:=As.mk (HEN.out w6 A6 c6 h6);clear o6 k6 a6 h6 HEN HA5)
  |(go_at_call 42;refine HE6.out.mono ?_;rintro e w7 ⟨A7,c7,rfl,HF7⟩;clear HE6))
 go_ret2
 exact⟨_,_,rfl,HF7.out.1,HF7.out.2⟩
end Go.Proofs.YtdiljpdohmeceaaGreat.ref22
namespace Go.Proofs.YtdiljpdohmeceaaGreat.refr
open Go.RowKit H O
def Rdr(w:World)(b:Nat)(g:Option Nat)(s:Option (List Int)):Prop:=
 ∃A c,w.heap[b]?=some (.cells #[.slice A (left s).length c,.bool s.isNone] 106 (0,0))/\A.map Addr.block=g/\Rd w A (iv .u8 (left s))/\(left s).length<=c/\c<=9223372036854775807/\
  (A=none->c=0)/\g≠some b/\Wf (left s)
def RdrPost(b:Nat)(g:Option Nat)(val:Value)(s:Option (List Int))(w:World)(e:Ending)(w':World):Prop:=
 e= .returned val/\∃g',Rdr w' b g' s/\(g'=g\/g'=none)/\Kp [b] w w'
def NewRdr(xs:List Int)(w:World)(e:Ending)(w':World):Prop:=
 ∃b g,e= .returned (.pointer (some ⟨b,0,none⟩))/\Rdr w' b g (some xs)/\w.heap.size<=b/\(∀x,g=some x->w.heap.size<=x/\x<w'.heap.size)/\Kp [] w w'
theorem Rdr.kp{w w1:World}{b:Nat}{g:Option Nat}{s:Option (List Int)}{S:List Nat}(h:Rdr w b g s)(k:Kp S w w1)(hb:b∉S)(hg:∀x,g=some x->x∉S):Rdr w1 b g s:=by
 obtain⟨A,c,h1,rfl,h3,h4,h5,h6,h7,h8⟩:=h
 exact⟨A,c,k.blk h1 hb,rfl,k.rd h3 (fun a ha=>hg _ (by simp[ha])),h4,h5,h6,h7,h8⟩
theorem Rdr.lt{w:World}{b:Nat}{g:Option Nat}{s:Option (List Int)}(h:Rdr w b g s):b<w.heap.size:=by
 obtain⟨A,c,h1,_⟩:=h
 exact lt_of_block h1
theorem stNum_none{s:Option (List Int)}(h:dec (left s)=none):stNum s=(0,none):=by
 cases s with
 |none=>rfl
 |some l=>simp only[left,Option.getD_some] at h;simp[stNum,h]
theorem stNum_some{s:Option (List Int)}{v:Nat}{r:List Int}(h:dec (left s)=some (v,r)):stNum s=(v,some r):=by
 cases s with
 |none=>simp[left,dec,decF] at h
 |some l=>simp only[left,Option.getD_some] at h;simp[stNum,h]
theorem num_fail{b:Nat}{g:Option Nat}{s:Option (List Int)}{xs:List Int}{w w1:World}(hx:xs=left s)(hd:decF 0 0 xs=none)(h:RdrPost b g (.tuple #[]) none w (.returned (.tuple #[])) w1):
 RdrPost b g (.int .i64 ((stNum s).1:Int)) (stNum s).2 w (.returned (.int .i64 0)) w1:=by
 subst hx
 rw[stNum_none hd]
 exact⟨rfl,h.2⟩
theorem num_ok{b k c c' u1:Nat}{a a':Addr}{s:Option (List Int)}{xs:List Int}{w:World}(hb:w.heap[b]?=some (.cells #[.slice (some a) xs.length c,.bool s.isNone] 106 (0,0)))
 (hR:Rdr w b (some a.block) s) (hx:xs=left s) (hd:decF 0 0 xs=some (u1,xs.drop (k+1))) (hr:Rd w (some a') (iv .u8 (xs.drop (k+1)))) (ha:a'.block=a.block) (hl:xs.length-(k+1)<=c') (hc:c'<=9223372036854775807):
 RdrPost b (some a.block) (.int .i64 ((stNum s).1:Int)) (stNum s).2 w (.returned (.int .i64 (u1:Int))) (w.setCell ⟨b,0,none⟩ (.slice (some a') (xs.length-(k+1)) c')):=by
 obtain⟨_,_,_,_,_,_,_,_,hne,hw⟩:=hR
 subst hx
 rw[stNum_some hd]
 have hs:s.isNone=false:=by
  cases s with
  |none=>simp[left,decF] at hd
  |some l=>rfl
 rw[hs] at hb
 have hk:=(Kp.refl [b] w).setCell (a:=⟨b,0,none⟩) (.inl (by simp)) (.slice (some a') ((left s).length-(k+1)) c')
 refine⟨rfl,some a.block,⟨some a',c', ?_,by simp[ha], ?_,by simpa [left] using hl,hc,by simp,hne,hw.drop _⟩,.inl rfl,hk⟩
 ·have:=heap_setCell_same w b 0 _ _ (.slice (some a') ((left s).length-(k+1)) c') hb
  simpa [left] using this
 ·exact hk.rd hr (fun x hx=>by cases hx;rw[ha];intro hm;exact hne (by simpa using hm))
theorem left_le{s:Option (List Int)}{m:Nat}(h:(left s).length<=m):(left (stNum s).2).length<=m:=by
 cases s with
 |none=>simpa [stNum] using h
 |some l=>
  simp only[left,Option.getD_some] at h
  cases hd:dec l with
  |none=>simp[stNum,hd,left]
  |some p=>
   obtain⟨v,r⟩:=p
   obtain⟨q,e,_⟩:=dec_suffix hd
   simp only[stNum,hd,left,Option.getD_some]
   have:=congrArg List.length e
   simp only[List.length_append] at this
   omega
def whole(s:Option (List Int)):Bool:=s==some []
theorem left_map(s:Option (List Int))(n:Nat):left (s.map (·.drop n))=(left s).drop n:=by cases s<;>simp[left]
theorem Rdr.cut{b n c c':Nat}{a a':Addr}{s:Option (List Int)}{w:World}(hb:w.heap[b]?=some (.cells #[.slice (some a) (left s).length c,.bool s.isNone] 106 (0,0)))
 (hne:some a.block≠some b) (hw:Wf (left s)) (hr:Rd w (some a') (iv .u8 ((left s).drop n))) (ha:a'.block=a.block) (hl:(left s).length-n<=c') (hc:c'<=9223372036854775807):
 Rdr (w.setCell ⟨b,0,none⟩ (.slice (some a') ((left s).length-n) c')) b (some a.block) (s.map (·.drop n))/\Kp [b] w (w.setCell ⟨b,0,none⟩ (.slice (some a') ((left s).length-n) c')):=by
 have hk:=(Kp.refl [b] w).setCell (a:=⟨b,0,none⟩) (.inl (by simp)) (.slice (some a') ((left s).length-n) c')
 refine⟨⟨some a',c', ?_,by simp[ha], ?_,by rw[left_map];simpa using hl,hc,by simp,hne,by rw[left_map];exact hw.drop _⟩,hk⟩
 ·have:=heap_setCell_same w b 0 _ _ (.slice (some a') ((left s).length-n) c') hb
  rw[left_map]
  simpa using this
 ·rw[left_map]
  exact hk.rd hr (fun x hx=>by cases hx;rw[ha];intro hm;exact hne (by simpa using hm))
def RawPost(b:Nat)(g:Option Nat)(r:List Int×Option (List Int))(w:World)(e:Ending)(w':World):Prop:=
 ∃v,e= .returned v/\Own 5 .u8 w' w.heap.size v r.1/\∃g',Rdr w' b g' r.2/\(g'=g\/g'=none)/\Kp [b] w w'
theorem stRaw_bad{s:Option (List Int)}{n:Int}(h:n<0\/((left s).length:Int)<n):stRaw n s=([],none):=by
 cases s with
 |none=>rfl
 |some l=>simp only[stRaw];rw[if_pos (by simpa [left] using h)]
theorem stRaw_good{s:Option (List Int)}{m:Nat}(h:m<=(left s).length):stRaw (m:Int) s=((left s).take m,s.map (·.drop m)):=by
 cases s with
 |none=>simp[stRaw,left]
 |some l=>simp only[stRaw];rw[if_neg (by simp[left] at h⊢;omega)];simp[left]
theorem raw_ok{b m c c' len:Nat}{a a':Addr}{s:Option (List Int)}{w w1:World}{v:Value}(hR:Rdr w b (some a.block) s)(hl:(left s).length=len)
 (hb1:w1.heap[b]?=some (.cells #[.slice (some a) len c,.bool s.isNone] 106 (0,0))) (ho:Own 5 .u8 w1 w.heap.size v ((left s).take m)) (hk:Kp [] w w1)
 (hr:Rd w (some a') (iv .u8 ((left s).drop m))) (ha:a'.block=a.block) (hle:len-m<=c') (hc:c'<=9223372036854775807):
 RawPost b (some a.block) ((left s).take m,s.map (·.drop m)) w (.returned v) (w1.setCell ⟨b,0,none⟩ (.slice (some a') (len-m) c')):=by
 have hlt:=hR.lt
 obtain⟨_,_,_,_,_,_,_,_,hne,hw⟩:=hR
 subst hl
 obtain⟨h1,h2⟩:=Rdr.cut (n:=m) (a':=a') (c':=c') hb1 hne hw (hk.rd hr (fun _ _=>by simp)) ha hle hc
 refine⟨v,rfl,ho.kp h2 ?_,some a.block,h1,.inl rfl,(hk.mono (by simp)).trans h2 (fun x hx=> .inl hx)⟩
 intro g hg
 have:=ho.2 g hg
 simp
 omega
theorem raw_nil{b:Nat}{s:Option (List Int)}{w w1:World}{v:Value}(hR:Rdr w b none s)(hl:(left s).length=0)
 (hb1:w1.heap[b]?=some (.cells #[.slice none 0 0,.bool s.isNone] 106 (0,0))) (ho:Own 5 .u8 w1 w.heap.size v ((left s).take 0)) (hk:Kp [] w w1):
 RawPost b none ((left s).take 0,s.map (·.drop 0)) w (.returned v) (w1.setCell ⟨b,0,none⟩ (.slice none 0 0)):=by
 have hlt:=hR.lt
 have e:s.map (·.drop 0)=s:=by cases s<;>simp
 have e0:left s=[]:=List.eq_nil_of_length_eq_zero hl
 have h2:=(Kp.refl [b] w1).setCell (a:=⟨b,0,none⟩) (.inl (by simp)) (.slice none 0 0)
 rw[e]
 refine⟨v,rfl,ho.kp h2 ?_,none,⟨none,0, ?_,rfl,by rw[e0];exact Rd.nil _ _,by show(left s).length<=0;omega,by omega,fun _=>rfl,by simp,by rw[e0];exact Wf.nil⟩,.inl rfl,(hk.mono (by simp)).trans h2 (fun x hx=> .inl hx)⟩
 ·intro g hg
  have:=ho.2 g hg
  simp
  omega
 ·have:=heap_setCell_same w1 b 0 _ _ (.slice none 0 0) hb1
  rw[hl]
  simpa using this
theorem Rdr.bad{w:World}{b:Nat}{g:Option Nat}{cs:Array Value}{x y:Value}(hcs:cs= #[x,y])(hb:w.heap[b]?=some (.cells cs 106 (0,0))):
 RdrPost b g (.tuple #[]) none w (.returned (.tuple #[])) ((w.setCell ⟨b,0,none⟩ (.slice none 0 0)).setCell ⟨b,1,none⟩ (.bool true))/\
 RdrPost b g (.tuple #[]) none w (.returned (.tuple #[])) ((w.setCell ⟨b,1,none⟩ (.bool true)).setCell ⟨b,0,none⟩ (.slice none 0 0)):=by
 subst hcs
 refine⟨⟨rfl,none,⟨none,0, ?_,rfl,Rd.nil _ _,Nat.le_refl _,by omega,fun _=>rfl,by simp,Wf.nil⟩,.inr rfl, ?_⟩,⟨rfl,none,⟨none,0, ?_,rfl,Rd.nil _ _,Nat.le_refl _,by omega,fun _=>rfl,by simp,Wf.nil⟩,.inr rfl, ?_⟩⟩
 ·have h1:=heap_setCell_same w b 0 _ _ (.slice none 0 0) hb
  exact heap_setCell_same _ b 1 _ _ (.bool true) h1
 ·exact((Kp.refl [b] w).setCell (.inl (by simp)) _).setCell (.inl (by simp)) _
 ·have h1:=heap_setCell_same w b 1 _ _ (.bool true) hb
  exact heap_setCell_same _ b 0 _ _ (.slice none 0 0) h1
 ·exact((Kp.refl [b] w).setCell (.inl (by simp)) _).setCell (.inl (by simp)) _
theorem bad_any(b:Nat)(g:Option Nat)(s:Option (List Int))(w:World)(hR:Rdr w b g s):
 Calls Tryz.prog 78 #[.pointer (some ⟨b,0,none⟩)] w (RdrPost b g (.tuple #[]) none w):=by
 obtain⟨A,c,hb,rfl,hr,hl,hm,hn,hne,hw⟩:=hR
 have c0:=bkc hb 0 rfl
 have c1:=bkc hb 1 rfl
 have f0:=blk_free hb 0
 have f1:=blk_free hb 1
 have HB:=As.mk (Rdr.bad (g:=A.map Addr.block) rfl hb).2
 clear hb hr hl hm hn hne hw
 go_enter Tryz.func78,Tryz.ntmps78
 go_wp2
 go_end0
 exact HB.out
theorem whole_any(b:Nat)(g:Option Nat)(s:Option (List Int))(w:World)(hR:Rdr w b g s):
 Calls Tryz.prog 37 #[.pointer (some ⟨b,0,none⟩)] w fun e w'=>e= .returned (.bool (whole s))/\w'=w:=by
 obtain⟨A,c,hb,rfl,_⟩:=hR
 have c0:=bkc hb 0 rfl
 have c1:=bkc hb 1 rfl
 clear hb
 rcases s with _|⟨_|⟨x,l⟩⟩
 ·go_enter Tryz.func37,Tryz.ntmps37
  go_wp2
  go_ret
  exact⟨rfl,rfl⟩
 ·go_enter Tryz.func37,Tryz.ntmps37
  go_wp2
  go_ret
  exact⟨rfl,rfl⟩
 ·have hl:(((left (some (x::l))).length:Int)==0)=false:=by simp[left];omega
  go_enter Tryz.func37,Tryz.ntmps37
  go_wp2
  go_ret
  exact⟨rfl,rfl⟩
theorem raw_any(b:Nat)(g:Option Nat)(s:Option (List Int))(n:Int)(w:World)(hR:Rdr w b g s)(hb:(left s).length<=140737488351232):
 Calls Tryz.prog 34 #[.pointer (some ⟨b,0,none⟩),.int .i64 n] w (RawPost b g (stRaw n s) w):=by
 have HBAD:=As.mk (bad_any b g s w hR)
 have HRR:=As.mk hR
 obtain⟨A,c,hb0,rfl,hr,hl,hm,hn,hne,hw⟩:=hR
 obtain⟨len,hlen⟩:∃len,(left s).length=len:=⟨_,rfl⟩
 rw[hlen] at hb0 hl hb
 have c0:=bkc hb0 0 rfl
 have c1:=bkc hb0 1 rfl
 have HB:=As.mk hb0
 have HR:=As.mk hr
 have HL:=As.mk hlen
 have HN:=As.mk hn
 clear hb0 hr hn hne hw hlen
 by_cases h0:n<0
 ·have HS:=As.mk (stRaw_bad (s:=s) (.inl h0))
  go_enter Tryz.func34,Tryz.ntmps34
  go_wp2_with (go_at_call 78;refine HBAD.out.mono ?_;rintro e w1 HP;obtain rfl:=HP.1;have HPA:=As.mk HP;obtain⟨_,g1,⟨A1,k1,hb1,_⟩,_⟩:=HP;have c11:=bkc hb1 1 rfl;clear hb1)
  go_ret
  rw[HS.out]
  exact⟨_,rfl,Own.nil _ _ _ _,HPA.out.2⟩
 ·by_cases h1:(len:Int)<n
  ·have HS:=As.mk (stRaw_bad (s:=s) (n:=n) (.inr (by rw[HL.out];exact h1)))
   go_enter Tryz.func34,Tryz.ntmps34
   go_wp2_with (go_at_call 78;refine HBAD.out.mono ?_;rintro e w1 HP;obtain rfl:=HP.1;have HPA:=As.mk HP;obtain⟨_,g1,⟨A1,k1,hb1,_⟩,_⟩:=HP;have c11:=bkc hb1 1 rfl;clear hb1)
   go_ret
   rw[HS.out]
   exact⟨_,rfl,Own.nil _ _ _ _,HPA.out.2⟩
  ·obtain⟨m,rfl⟩:=Int.eq_ofNat_of_zero_le (by omega:0<=n)
   have hml:m<=len:=by omega
   have hbl:=HRR.out.lt
   clear h0 h1
   cases s with
   |none=>
    go_enter Tryz.func34,Tryz.ntmps34
    go_wp2
    go_ret
    exact⟨_,rfl,Own.nil _ _ _ _,_,HRR.out,.inl rfl,Kp.refl _ _⟩
   |some l=>
    have HS:=As.mk (stRaw_good (s:=some l) (m:=m) (by rw[HL.out];exact hml))
    cases A with
    |none=>
     have hc:=HN.out rfl
     subst hc
     obtain rfl:len=0:=by omega
     obtain rfl:m=0:=by omega
     go_enter Tryz.func34,Tryz.ntmps34
     go_wp2_with (at_builtin;refine clone.app8 rfl (.tmp 23) (.tmp 29) rfl (.slice (some ⟨w.heap.size,0,none⟩) 0 0) 0 [] rfl (own_new w [] _ (Nat.zero_le _)) none 0 0 [] rfl rfl (Rd.nil _ _) (by simp) (by simp) (by omega) ?_;intro v1 w1 o1 k1 a1;obtain⟨A1,c1',rfl,_⟩:=own_rd o1;have ho:=own_of_app (k:= .u8) (lo:=w.heap.size) (ys:=[]) rfl o1 a1 (by simp) (by simp[Value.ownBlock]);have hk:=kp_of_new k1;have hb1:=hk.blk HB.out (by simp);have c01:=bkc hb1 0 rfl;have f01:=blk_free hb1 0;have HO:=As.mk ho;have HK:=As.mk hk;have HB1:=As.mk hb1;clear o1 k1 a1 ho hk hb1)
     go_ret
     show RawPost _ _ (stRaw ((0:Nat):Int) (some l)) _ _ _
     rw[HS.out]
     exact raw_nil HRR.out HL.out HB1.out (by simpa using HO.out) HK.out
    |some a=>
     go_enter Tryz.func34,Tryz.ntmps34
     go_wp2_with (at_builtin;refine clone.app8 rfl (.tmp 23) (.tmp 29) rfl (.slice (some ⟨w.heap.size,0,none⟩) 0 0) 0 [] rfl (own_new w [] _ (Nat.zero_le _)) (some a) m c (iv .u8 (l.take m)) rfl (by rw[iv_len,List.length_take];have h9:=HL.out;simp only[left,Option.getD_some] at h9;omega) (((Kp.refl [] w).alloc _).rd_new (by rw[<-iv_take];exact HR.out.take m) (by simp)) (by simp) (iv_one _ _) (by omega) ?_;intro v1 w1 o1 k1 a1;obtain⟨A1,c1',rfl,_⟩:=own_rd o1;have ho:=own_of_app (k:= .u8) (lo:=w.heap.size) (ys:=l.take m) (by rw[List.length_take];have h9:=HL.out;simp only[left,Option.getD_some] at h9;omega) o1 a1 (by simp) (by simp[Value.ownBlock]);have hk:=kp_of_new k1;have hb1:=hk.blk HB.out (by simp);have c01:=bkc hb1 0 rfl;have f01:=blk_free hb1 0;have HO:=As.mk ho;have HK:=As.mk hk;have HB1:=As.mk hb1;clear o1 k1 a1 ho hk hb1)
     all_goals go_ret
     all_goals rw[HS.out]
     ·exact raw_ok HRR.out HL.out HB1.out (by have h9:=HO.out;rw[Nat.zero_add] at h9;exact h9) HK.out (a':=a) (by rw[<-iv_drop,List.drop_of_length_le (by rw[iv_len,HL.out];omega)];exact Rd.nil _ _) rfl (by omega) (by omega)
     ·exact raw_ok HRR.out HL.out HB1.out (by have h9:=HO.out;rw[Nat.zero_add] at h9;exact h9) HK.out (a':=a.add m) (by rw[<-iv_drop];exact HR.out.drop _) (add_block _ _) (by omega) (by omega)
def cont(i u:Nat)(s:Option (List Int)):Nat×Option (List Int):=
 match s with
 |none=>(0,none)
 |some l=>match decF i u l with
  |none=>(0,none)
  |some (v,r)=>(v,some r)
theorem cont_zero(s:Option (List Int)):stNum s=cont 0 0 s:=rfl
theorem stRaw_cons(c:Int)(r:List Int):stRaw 1 (some (c::r))=([c],some r):=by
 simp only[stRaw]
 rw[if_neg (by simp only[List.length_cons];omega)]
 rfl
theorem cont_none{i u:Nat}{l:List Int}(h:decF i u l=none):cont i u (some l)=(0,none):=by simp only[cont,h]
theorem cont_some{i u v:Nat}{l r:List Int}(h:decF i u l=some (v,r)):cont i u (some l)=(v,some r):=by simp only[cont,h]
theorem cont_step{i u u' i':Nat}{l r:List Int}(h:decF i u l=decF i' u' r):cont i u (some l)=cont i' u' (some r):=by simp only[cont,h]
def At1(b:Nat)(g:Option Nat)(s:Option (List Int))(w:World)(i u:Nat)(s':Option (List Int))(wr:World):Prop:=
 stNum s=cont i u s'/\u<128^i/\(left s').length<=140737488351232/\∃g',Rdr wr b g' s'/\(g'=g\/g'=none)/\Kp [b] w wr
theorem fail_of{b:Nat}{g g1 g2:Option Nat}{s:Option (List Int)}{w wr w1:World}(h:stNum s=(0,none))(HP:Rdr w1 b g2 none/\(g2=g1\/g2=none)/\Kp [b] wr w1)(hg:g1=g\/g1=none)(hk:Kp [b] w wr):
 RdrPost b g (.int .i64 ((stNum s).1:Int)) (stNum s).2 w (.returned (.int .i64 0)) w1:=by
 rw[h]
 obtain⟨h1,h2,h3⟩:=HP
 refine⟨rfl,g2,h1, ?_,hk.trans h3 (fun x hx=> .inl hx)⟩
 rcases h2 with rfl|rfl
 ·exact hg
 ·exact .inr rfl
theorem fail_bad{b:Nat}{g g1 g2:Option Nat}{s s':Option (List Int)}{w wr w1 w2:World}(h:stNum s=(0,none))(HP:Rdr w1 b g2 s'/\(g2=g1\/g2=none)/\Kp [b] wr w1)(hg:g1=g\/g1=none)(hk:Kp [b] w wr)
 (hB:RdrPost b g2 (.tuple #[]) none w1 (.returned (.tuple #[])) w2):RdrPost b g (.int .i64 ((stNum s).1:Int)) (stNum s).2 w (.returned (.int .i64 0)) w2:=by
 obtain⟨_,h2,h3⟩:=HP
 obtain⟨_,g3,b1,b2,b3⟩:=hB
 refine fail_of h (g2:=g3) ⟨b1, ?_,h3.trans b3 (fun x hx=> .inl hx)⟩ hg hk
 rcases b2 with rfl|rfl
 ·exact h2
 ·exact .inr rfl
theorem ok_of{b u:Nat}{g g1 g2:Option Nat}{s:Option (List Int)}{r:List Int}{w wr w1:World}(h:stNum s=(u,some r))(HP:Rdr w1 b g2 (some r)/\(g2=g1\/g2=none)/\Kp [b] wr w1)(hg:g1=g\/g1=none)(hk:Kp [b] w wr):
 RdrPost b g (.int .i64 ((stNum s).1:Int)) (stNum s).2 w (.returned (.int .i64 (u:Int))) w1:=by
 rw[h]
 obtain⟨h1,h2,h3⟩:=HP
 refine⟨rfl,g2,h1, ?_,hk.trans h3 (fun x hx=> .inl hx)⟩
 rcases h2 with rfl|rfl
 ·exact hg
 ·exact .inr rfl
theorem next_of{b k u:Nat}{g g1 g2:Option Nat}{s:Option (List Int)}{c:Int}{r:List Int}{w wr w1:World}(h:stNum s=cont k u (some r))(hu:u<128^k)(hl:(left (some (c::r))).length<=140737488351232)
 (HP:Rdr w1 b g2 (some r)/\(g2=g1\/g2=none)/\Kp [b] wr w1) (hg:g1=g\/g1=none) (hk:Kp [b] w wr):At1 b g s w k u (some r) w1:=by
 obtain⟨h1,h2,h3⟩:=HP
 refine⟨h,hu,by simp only[left,Option.getD_some,List.length_cons] at hl⊢;omega,g2,h1, ?_,hk.trans h3 (fun x hx=> .inl hx)⟩
 rcases h2 with rfl|rfl
 ·exact hg
 ·exact .inr rfl
theorem big_bits(u:Nat)(h:u<9223372036854775808):4611686018427387904<bits .or .u64 (u:Int) (IntKind.u64.wrap (IntKind.u64.wrap (bits .and .u8 1 127)*9223372036854775808)):=by
 have e:IntKind.u64.wrap (IntKind.u64.wrap (bits .and .u8 1 127)*9223372036854775808)=((9223372036854775808:Nat):Int):=by decide+kernel
 rw[e,bits_or_u64_nat _ _ (by omega) (by omega)]
 have:9223372036854775808<=u|||9223372036854775808:=Nat.right_le_or
 omega
theorem num_any(b:Nat)(g:Option Nat)(s:Option (List Int))(w:World)(hR:Rdr w b g s)(hb:(left s).length<=140737488351232):
 Calls Tryz.prog 35 #[.pointer (some ⟨b,0,none⟩)] w (RdrPost b g (.int .i64 ((stNum s).1:Int)) (stNum s).2 w):=by
 have H0:As (At1 b g s w 0 0 s w):=⟨cont_zero s,by decide,hb,g,hR,.inl rfl,Kp.refl _ _⟩
 clear hR hb
 go_enter Tryz.func35,Tryz.ntmps35
 go_wp2
 go_loopw [3,4] (fun u i wr=>∃k u0:Nat,i= .int .i64 (k:Int)/\u= .int .u64 (u0:Int)/\k<=9/\(∃s',At1 b g s w k u0 s' wr)) (fun _ i _=>10-(intOf i).toNat)
 case atStart=>exact⟨0,0,rfl,rfl,by omega,_,H0.out⟩
 case round=>
  obtain⟨k,u0,rfl,rfl,hk,s',hN,hU,hL,g1,R1,G1,K1⟩:=hrel
  have HWF:As (Wf (left s')):=⟨by obtain⟨_,_,_,_,_,_,_,_,_,h⟩:=R1;exact h⟩
  have HN:=As.mk hN
  have HU:=As.mk hU
  have HL:=As.mk hL
  have HG1:=As.mk G1
  have HK1:=As.mk K1
  have HRW:=As.mk (raw_any b g1 s' 1 wr R1 hL)
  clear hN hU hL R1 G1 K1
  rcases s' with _|⟨_|⟨c,r⟩⟩
  ·go_wp2_with (go_at_call 34;refine HRW.out.mono ?_;rintro e w1 ⟨v,rfl,O2,g2,R2,G2,K2⟩;obtain⟨A2,c2,hb2,_⟩:=id R2;have c21:=bkc hb2 1 rfl;have HP:=As.mk (And.intro R2 (And.intro G2 K2));clear O2 R2 G2 K2 hb2)
   go_ret
   exact fail_of HN.out HP.out HG1.out HK1.out
  ·go_wp2_with (go_at_call 34;refine HRW.out.mono ?_;rintro e w1 ⟨v,rfl,O2,g2,R2,G2,K2⟩;obtain⟨A2,c2,hb2,_⟩:=id R2;have c21:=bkc hb2 1 rfl;have HP:=As.mk (And.intro R2 (And.intro G2 K2));clear O2 R2 G2 K2 hb2)
   go_ret
   exact fail_of HN.out HP.out HG1.out HK1.out
  ·have hc:=HWF.out c (by simp[left])
   by_cases h9:k=9
   ·subst h9
    have HF:As (stNum s=(0,none)):=⟨by rw[HN.out];exact cont_none (by rw[decF,if_pos (.inl (Nat.le_refl 9))])⟩
    have hcase:127<c\/(¬127<c/\1<c)\/c=0\/c=1:=by omega
    rcases hcase with h1|⟨h1,h2⟩|rfl|rfl
    ·go_wp2_with (first
      |(go_at_call 34;refine HRW.out.mono ?_;rw[stRaw_cons];rintro e w1 ⟨v,rfl,O2,g2,R2,G2,K2⟩;obtain⟨A2,c2,hb2,_⟩:=id R2;have c21:=bkc hb2 1 rfl;obtain⟨gx,capx,rfl,_,_⟩:=own_form O2.1 (by simp);have dx:=one_cell O2;have HP:=As.mk (And.intro R2 (And.intro G2 K2));clear O2 R2 G2 K2 hb2)
      |(go_at_call 78;refine(bad_any b g2 (some r) _ HP.out.1).mono ?_;rintro e w2 HB;obtain rfl:=HB.1;have HB2:=As.mk HB;clear HB))
     go_ret
     exact fail_bad HF.out HP.out HG1.out HK1.out HB2.out
    ·go_wp2_with (first
      |(go_at_call 34;refine HRW.out.mono ?_;rw[stRaw_cons];rintro e w1 ⟨v,rfl,O2,g2,R2,G2,K2⟩;obtain⟨A2,c2,hb2,_⟩:=id R2;have c21:=bkc hb2 1 rfl;obtain⟨gx,capx,rfl,_,_⟩:=own_form O2.1 (by simp);have dx:=one_cell O2;have HP:=As.mk (And.intro R2 (And.intro G2 K2));clear O2 R2 G2 K2 hb2)
      |(go_at_call 78;refine(bad_any b g2 (some r) _ HP.out.1).mono ?_;rintro e w2 HB;obtain rfl:=HB.1;have HB2:=As.mk HB;clear HB))
     go_ret
     exact fail_bad HF.out HP.out HG1.out HK1.out HB2.out
    ·go_wp2_with (first
      |(go_at_call 34;refine HRW.out.mono ?_;rw[stRaw_cons];rintro e w1 ⟨v,rfl,O2,g2,R2,G2,K2⟩;obtain⟨A2,c2,hb2,_⟩:=id R2;have c21:=bkc hb2 1 rfl;obtain⟨gx,capx,rfl,_,_⟩:=own_form O2.1 (by simp);have dx:=one_cell O2;have HP:=As.mk (And.intro R2 (And.intro G2 K2));clear O2 R2 G2 K2 hb2)
      |(go_at_call 78;refine(bad_any b g2 (some r) _ HP.out.1).mono ?_;rintro e w2 HB;obtain rfl:=HB.1;have HB2:=As.mk HB;clear HB))
     go_ret
     exact fail_bad HF.out HP.out HG1.out HK1.out HB2.out
    ·have hbig:=big_bits u0 (by have h7:=HU.out;have h8:(128:Nat)^9=9223372036854775808:=by decide
                                omega)
     go_wp2_with (first
      |(go_at_call 34;refine HRW.out.mono ?_;rw[stRaw_cons];rintro e w1 ⟨v,rfl,O2,g2,R2,G2,K2⟩;obtain⟨A2,c2,hb2,_⟩:=id R2;have c21:=bkc hb2 1 rfl;obtain⟨gx,capx,rfl,_,_⟩:=own_form O2.1 (by simp);have dx:=one_cell O2;have HP:=As.mk (And.intro R2 (And.intro G2 K2));clear O2 R2 G2 K2 hb2)
      |(go_at_call 78;refine(bad_any b g2 (some r) _ HP.out.1).mono ?_;rintro e w2 HB;obtain rfl:=HB.1;have HB2:=As.mk HB;clear HB))
     go_ret
     exact fail_bad HF.out HP.out HG1.out HK1.out HB2.out
   ·have hk8:k<=8:=by omega
    have hlen:¬9<=k:=by omega
    obtain⟨u1,hu1⟩:∃u1:Nat,u1=u0+c.toNat%128*128^k:=⟨_,rfl⟩
    have hbit:=num_bits u0 k c hc.1 hc.2 hk8 HU.out
    rw[<-hu1] at hbit
    have HU1:=As.mk hu1
    have HD:As (decF k u0 (c::r)=if 9<=k\/(0<k/\c=0) then none else if c<128 then(if 4611686018427387904<u0+c.toNat*128^k then none else some (u0+c.toNat*128^k,r)) else decF (k+1) (u0+(c.toNat-128)*128^k) r):=⟨by rw[decF]⟩
    clear hu1
    by_cases h127:127<c
    ·have HF:As (stNum s=cont (k+1) u1 (some r)):=by
      constructor
      have e1:c.toNat%128=c.toNat-128:=by omega
      rw[HN.out]
      exact cont_step (by rw[HD.out,if_neg (by omega),if_neg (by omega),HU1.out,e1])
     have HB1:As (u1<128^(k+1)):=by
      constructor
      rw[HU1.out,Nat.pow_succ]
      have h1:c.toNat%128*128^k<=127*128^k:=Nat.mul_le_mul_right _ (by omega)
      have h2:=HU.out
      omega
     go_wp2_with (first
      |(go_at_call 34;refine HRW.out.mono ?_;rw[stRaw_cons];rintro e w1 ⟨v,rfl,O2,g2,R2,G2,K2⟩;obtain⟨A2,c2,hb2,_⟩:=id R2;have c21:=bkc hb2 1 rfl;obtain⟨gx,capx,rfl,_,_⟩:=own_form O2.1 (by simp);have dx:=one_cell O2;have HP:=As.mk (And.intro R2 (And.intro G2 K2));clear O2 R2 G2 K2 hb2)
      |(go_at_call 78;refine(bad_any b g2 (some r) _ HP.out.1).mono ?_;rintro e w2 HB;obtain rfl:=HB.1;have HB2:=As.mk HB;clear HB))
     go_roundw
     case rel=>exact⟨k+1,u1,by go_num,rfl,by omega,_,next_of HF.out HB1.out HL.out HP.out HG1.out HK1.out⟩
     case measure=>simp[intOf];omega
    ·have HE:As (u0+c.toNat*128^k=u1):=by
      constructor
      have e1:c.toNat%128=c.toNat:=by omega
      rw[HU1.out,e1]
     by_cases h0:0<k/\c=0
     ·obtain⟨h0k,rfl⟩:=h0
      have HF:As (stNum s=(0,none)):=⟨by rw[HN.out];exact cont_none (by rw[HD.out,if_pos (.inr ⟨h0k,rfl⟩)])⟩
      go_wp2_with (first
      |(go_at_call 34;refine HRW.out.mono ?_;rw[stRaw_cons];rintro e w1 ⟨v,rfl,O2,g2,R2,G2,K2⟩;obtain⟨A2,c2,hb2,_⟩:=id R2;have c21:=bkc hb2 1 rfl;obtain⟨gx,capx,rfl,_,_⟩:=own_form O2.1 (by simp);have dx:=one_cell O2;have HP:=As.mk (And.intro R2 (And.intro G2 K2));clear O2 R2 G2 K2 hb2)
      |(go_at_call 78;refine(bad_any b g2 (some r) _ HP.out.1).mono ?_;rintro e w2 HB;obtain rfl:=HB.1;have HB2:=As.mk HB;clear HB))
      go_ret
      exact fail_bad HF.out HP.out HG1.out HK1.out HB2.out
     ·have hcase:¬0<k\/(0<k/\(c==0)=false):=by
       by_cases hk0:0<k
       ·exact .inr ⟨hk0,by rw[beq_eq_false_iff_ne];omega⟩
       ·exact .inl hk0
      have HN0:As (¬(9<=k\/(0<k/\c=0))):=⟨by omega⟩
      clear h0
      by_cases hbig:4611686018427387904<u1
      ·have HF:As (stNum s=(0,none)):=⟨by rw[HN.out];exact cont_none (by rw[HD.out,if_neg HN0.out,if_pos (by omega),HE.out,if_pos hbig])⟩
       obtain g2'|⟨g2',g3'⟩:=hcase
       all_goals
        go_wp2_with (first
         |(go_at_call 34;refine HRW.out.mono ?_;rw[stRaw_cons];rintro e w1 ⟨v,rfl,O2,g2,R2,G2,K2⟩;obtain⟨A2,c2,hb2,_⟩:=id R2;have c21:=bkc hb2 1 rfl;obtain⟨gx,capx,rfl,_,_⟩:=own_form O2.1 (by simp);have dx:=one_cell O2;have HP:=As.mk (And.intro R2 (And.intro G2 K2));clear O2 R2 G2 K2 hb2)
         |(go_at_call 78;refine(bad_any b g2 (some r) _ HP.out.1).mono ?_;rintro e w2 HB;obtain rfl:=HB.1;have HB2:=As.mk HB;clear HB))
        go_ret
        exact fail_bad HF.out HP.out HG1.out HK1.out HB2.out
      ·have HF:As (stNum s=(u1,some r)):=⟨by rw[HN.out];exact cont_some (by rw[HD.out,if_neg HN0.out,if_pos (by omega),HE.out,if_neg hbig])⟩
       obtain g2'|⟨g2',g3'⟩:=hcase
       all_goals
        go_wp2_with (first
         |(go_at_call 34;refine HRW.out.mono ?_;rw[stRaw_cons];rintro e w1 ⟨v,rfl,O2,g2,R2,G2,K2⟩;obtain⟨A2,c2,hb2,_⟩:=id R2;have c21:=bkc hb2 1 rfl;obtain⟨gx,capx,rfl,_,_⟩:=own_form O2.1 (by simp);have dx:=one_cell O2;have HP:=As.mk (And.intro R2 (And.intro G2 K2));clear O2 R2 G2 K2 hb2)
         |(go_at_call 78;refine(bad_any b g2 (some r) _ HP.out.1).mono ?_;rintro e w2 HB;obtain rfl:=HB.1;have HB2:=As.mk HB;clear HB))
        go_ret
        exact ok_of HF.out HP.out HG1.out HK1.out
theorem bytes_any(b:Nat)(g:Option Nat)(s:Option (List Int))(w:World)(hR:Rdr w b g s)(hb:(left s).length<=140737488351232):
 Calls Tryz.prog 36 #[.pointer (some ⟨b,0,none⟩)] w (RawPost b g (stBytes s) w):=by
 have HN:=As.mk (num_any b g s w hR hb)
 have HL:=As.mk (left_le hb)
 clear hR
 obtain⟨⟨v,s2⟩,hv⟩:∃p,p=stNum s:=⟨_,rfl⟩
 have HV:=As.mk hv
 rw[<-hv] at HN HL
 clear hv
 cases s2 with
 |none=>
  have HE:As (stBytes s=([],none)):=⟨by rw[stBytes,<-HV.out];rfl⟩
  go_enter Tryz.func36,Tryz.ntmps36
  go_wp2_with (go_at_call 35;refine HN.out.mono ?_;rintro e w1 HP;obtain rfl:=HP.1;obtain⟨_,g1,R1,G1,K1⟩:=HP;obtain⟨A2,c2,hb2,_⟩:=id R1;have c21:=bkc hb2 1 rfl;have HP1:=As.mk (And.intro R1 (And.intro G1 K1));clear R1 G1 K1 hb2)
  go_ret
  rw[HE.out]
  exact⟨_,rfl,Own.nil _ _ _ _,g1,HP1.out⟩
 |some r=>
  go_enter Tryz.func36,Tryz.ntmps36
  go_wp2_with (first
   |(go_at_call 35;refine HN.out.mono ?_;rintro e w1 HP;obtain rfl:=HP.1;obtain⟨_,g1,R1,G1,K1⟩:=HP;obtain⟨A2,c2,hb2,_⟩:=id R1;have c21:=bkc hb2 1 rfl;have HG1:=As.mk G1;have HK1:=As.mk K1;have HRW:=As.mk (raw_any b g1 (some r) (v:Int) w1 R1 HL.out);clear R1 G1 K1 hb2)
   |(go_at_call 34;refine HRW.out.mono ?_;rintro e w2 ⟨v2,rfl,O2,g2,R2,G2,K2⟩;have HP2:=As.mk (And.intro O2 (And.intro R2 (And.intro G2 K2)));clear O2 R2 G2 K2))
  go_ret
  obtain⟨O2,R2,G2,K2⟩:=HP2.out
  have HE:stBytes s=stRaw (v:Int) (some r):=by rw[stBytes,<-HV.out]
  rw[HE]
  refine⟨v2,rfl,O2.lower HK1.out.size,g2,R2, ?_,HK1.out.trans K2 (fun x hx=> .inl hx)⟩
  rcases G2 with rfl|rfl
  ·exact HG1.out
  ·exact .inr rfl
end Go.Proofs.YtdiljpdohmeceaaGreat.refr
namespace Go.Proofs.YtdiljpdohmeceaaGreat.ref22
open Go.RowKit H O opk frame co wir joins refr
structure FD(Z:Obj)(w wr:World)(X:Nat)(s:Option (List Int)):Prop where
 kp:Kp [] w wr
 res:wr.heap[w.heap.size]?=some Z
 lo:w.heap.size<X
 rdr:∃g,Rdr wr X g s
 small:(left s).length<=1100000
theorem FD.took{Z:Obj}{w wr w1:World}{X:Nat}{s s':Option (List Int)}(h:FD Z w wr X s){g:Option Nat}(R:Rdr w1 X g s')(hs:(left s').length<=1100000)(kk:Kp [X] wr w1):FD Z w w1 X s':=by
 have:=h.lo
 exact⟨h.kp.trans kk (by intro x hx;simp at hx;right;omega),kk.blk h.res (by simp;omega),h.lo,⟨g,R⟩,hs⟩
theorem FD.skip{Z:Obj}{w wr w1:World}{X:Nat}{s:Option (List Int)}(h:FD Z w wr X s)(o:Obj)(e:wr.alloc o=w1):FD Z w w1 X s:=by
 subst e
 obtain⟨g,R⟩:=h.rdr
 have k:Kp [] wr (wr.alloc o):=(Kp.refl [] wr).alloc o
 exact⟨h.kp.trans k (by simp),k.blk h.res (by simp),h.lo,⟨g,R.kp k (by simp) (by simp)⟩,h.small⟩
theorem FD.num{Z:Obj}{w wr:World}{X:Nat}{s s4:Option (List Int)}{y:Nat}(h:FD Z w wr X s)(hs:stNum s=(y,s4)):
 Calls Tryz.prog 35 #[.pointer (some ⟨X,0,none⟩)] wr fun e w5=>e= .returned (.int .i64 (y:Int))/\FD Z w w5 X s4/\Kp [X] wr w5:=by
 obtain⟨g,R⟩:=h.rdr
 have hsm:=h.small
 have hl:=refr.left_le hsm
 refine(refr.num_any _ g s wr R (by omega)).mono ?_
 rw[hs] at hl⊢
 rintro e w5 ⟨rfl,g5,R5,G5,K5⟩
 exact⟨rfl,h.took R5 hl K5,K5⟩
theorem FD.raw{Z:Obj}{w wr:World}{X:Nat}{s s4:Option (List Int)}{m:List Int}(h:FD Z w wr X s)(hs:stRaw 1 s=(m,s4))(hl:(left s4).length<=1100000):
 Calls Tryz.prog 34 #[.pointer (some ⟨X,0,none⟩),.int .i64 1] wr fun e w5=>∃v,e= .returned v/\FD Z w w5 X s4/\Own 5 .u8 w5 wr.heap.size v m/\Kp [X] wr w5:=by
 obtain⟨g,R⟩:=h.rdr
 have hsm:=h.small
 refine(refr.raw_any _ g s 1 wr R (by omega)).mono ?_
 rw[hs]
 rintro e w5 ⟨v,rfl,o,g5,R5,G5,K5⟩
 exact⟨v,rfl,h.took R5 hl K5,o,K5⟩
theorem FD.bytes{Z:Obj}{w wr:World}{X:Nat}{s s4:Option (List Int)}{p:List Int}{n:Nat}(h:FD Z w wr X s)(hs:stBytes s=(p,s4))(hn:p.length=n):
 Calls Tryz.prog 36 #[.pointer (some ⟨X,0,none⟩)] wr fun e w5=>∃A5 c5,e= .returned (.slice A5 n c5)/\As (FD Z w w5 X s4/\Own 5 .u8 w5 (w.heap.size+1) (.slice A5 n c5) p/\Kp [X] wr w5):=by
 obtain⟨g,R⟩:=h.rdr
 have hsm:=h.small
 have hl:=stBytes_left hsm
 have hz:w.heap.size+1<=wr.heap.size:=by have h1:=R.lt;have h2:=h.lo;omega
 refine(refr.bytes_any _ g s wr R (by omega)).mono ?_
 rw[hs] at hl⊢
 rintro e w5 ⟨v5,rfl,o,g5,R5,G5,K5⟩
 obtain⟨A5,c5,rfl,_⟩:=own_rd o.1
 rw[hn] at o⊢
 exact⟨A5,c5,rfl,⟨h.took R5 hl K5,o.lower hz,K5⟩⟩
theorem FD.whole{Z:Obj}{w wr:World}{X:Nat}{s:Option (List Int)}(h:FD Z w wr X s):
 Calls Tryz.prog 37 #[.pointer (some ⟨X,0,none⟩)] wr fun e w5=>e= .returned (.bool (refr.whole s))/\w5=wr:=by
 obtain⟨g,R⟩:=h.rdr
 exact refr.whole_any _ g s wr R
theorem FD.box{Z:Obj}{w w0 w2 w3:World}{A:Option Addr}{n c lo:Nat}{xs:List Int}(h0:w.alloc Z=w0)(hk:Kp [] w0 w2)(o:Own 5 .u8 w2 lo (.slice A n c) xs)(hw:Wf xs)(hs:xs.length<=1100000)(hZ:∃cs t,Z= .cells cs t (0,0))(h3:w2.alloc (.cells #[.slice A n c,.bool false] 106)=w3):
 FD Z w w3 w2.heap.size (some xs):=by
 subst h0 h3
 have k1:Kp [] w (w.alloc Z):=(Kp.refl [] w).alloc _
 have hb:=heap_alloc_new w2 (.cells #[.slice A n c,.bool false] 106)
 obtain⟨cs,t,rfl⟩:=hZ
 obtain⟨A',c',e,g1,g2,r,n0⟩:=own_rd o.1
 cases e
 have hlt:=fun g hg=>own_lt o.1 g hg
 have hz:=hk.size
 rw[World.size_alloc] at hz
 refine⟨(k1.trans hk (by simp)).alloc _,blk_alloc (hk.blk (heap_alloc_new w _) (by simp)) _,by omega,⟨A.map Addr.block,A,c, ?_,rfl,((Kp.refl [] w2).alloc _).rd_new r (by simp), ?_, ?_,n0, ?_,hw⟩,by simpa [left] using hs⟩
 ·exact hb
 ·exact g1
 ·have:maxLen=9223372036854775807:=rfl
  omega
 ·intro e
  cases A with
  |none=>cases e
  |some a=>
   simp only[Option.map_some,Option.some.injEq] at e
   have:=hlt a.block rfl
   omega
theorem dWRep_cases{xs p dat:List Int}{m:List Int}{s1 s2 s3 s4 s5:Option (List Int)}{n0 n1 n2:Nat}(hf:fOne xs=(p,0))(h0:stRaw 1 (some p)=(m,s1))(h1:stNum s1=(n0,s2))(h2:stNum s2=(n1,s3))(h3:stNum s3=(n2,s4))(h4:stBytes s4=(dat,s5)):
 dWRep xs=if s5=some []/\m=[114]/\rpErr n0 n1 ((n2:Int)-1) dat.length=0 then(⟨n0,n1,(n2:Int)-1,dat⟩,0) else(⟨0,0,0,[]⟩,3):=by
 have e3:stNums 3 s1=([(n0:Int),n1,n2],s4):=by simp only[stNums,h1,h2,h3]
 have hr:rd3 114 524288 xs=if m≠[114] then([],[],3) else if s5=some []/\dat.length<=524288 then([(n0:Int),n1,n2],dat,0) else([],[],3):=by
  rw[rd3,hf,if_neg (by simp)]
  simp only[h0,e3,h4]
 by_cases hm:m=[114]
 ·rw[if_neg (by rw[hm];simp)] at hr
  by_cases hc:s5=some []/\dat.length<=524288
  ·rw[if_pos hc] at hr
   by_cases ho:wrOk n0 n1 ((n2:Int)-1)=true
   ·rw[if_pos ⟨hc.1,hm,by rw[rpErr,if_neg (by rw[ho];simp),if_neg (by omega)]⟩,dWRep,hr,if_neg (by simp)]
    simp only[List.getD_cons_zero,List.getD_cons_succ]
    rw[if_pos ho]
   ·rw[if_neg,dWRep,hr,if_neg (by simp)]
    ·simp only[List.getD_cons_zero,List.getD_cons_succ]
     rw[if_neg ho]
    ·rintro⟨_,_,h⟩
     rw[rpErr,if_pos (by simpa using ho)] at h
     cases h
  ·rw[if_neg hc] at hr
   rw[if_neg,dWRep,hr,if_pos (by simp)]
   rintro⟨g1,_,h⟩
   rw[rpErr] at h
   split at h
   ·cases h
   ·split at h
    ·cases h
    ·exact hc ⟨g1,by omega⟩
 ·rw[if_pos hm] at hr
  rw[if_neg (fun h=>hm h.2.1),dWRep,hr,if_pos (by simp)]
end Go.Proofs.YtdiljpdohmeceaaGreat.ref22
