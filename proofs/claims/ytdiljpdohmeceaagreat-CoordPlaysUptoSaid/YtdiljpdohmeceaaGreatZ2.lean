/- Words and walks that this claim rests on: proved lemmas alone. -/
import Derived.Laws.CopyOwn
import Derived.Laws.Slices
import Derived.Lib.MakeNoZero
import Derived.Laws.Externs
import Derived.ChangeKeysEq
import Derived.Test.YtdiljpdohmeceaaGreatZ1
import Derived.Laws.BytesArg
import Derived.Deep.RegionLaw
set_option maxHeartbeats 16000000
set_option maxRecDepth 100000
namespace Go.Proofs.YtdiljpdohmeceaaGreat.joins
open Go.RowKit H O
structure Bf(w wr:World)(T:Nat)(zs:List Int):Prop where
 kp:Kp [] w wr
 ex:∃cur:List Value,wr.heap[w.heap.size]?=some (.cells cur.toArray 5 (0,0))/\T<=cur.length/\cur.take zs.length=iv .u8 zs/\zs.length<=T
theorem hs8:(Tryz.prog.info? 5).map (·.size)=some 1:=by kernel_rfl
theorem tail_of(h T p:Nat)(hb:p<=T):∃tl,(∀W,(Instr.slice 24 (.slice (some ⟨h,0,none⟩) T T) (some (.int .i64 (p:Int))) none none).run Tryz.prog W= .ok (.slice (some tl) (T-p) (T-p)) W)/\(p<T->tl=⟨h,p,none⟩):=by
 have ht':Tryz.prog.underlying 24=some (.slice (Tryz.prog.elem 24)):=by kernel_rfl
 have hz:∀w,(Go.sizeOf (Tryz.prog.elem 24)).run Tryz.prog w= .ok 1 w:=fun w=>by
  obtain⟨i,hi,_⟩:=Option.map_eq_some_iff.1 hs8
  rw[show Tryz.prog.elem 24=5 from by kernel_rfl,run_sizeOf w hi,show Tryz.prog.cellsOf 5=1 from by kernel_rfl]
 refine⟨if T=p then⟨h,0,none⟩ else(⟨h,0,none⟩:Addr).add p,fun W=> ?_,fun hp=> ?_⟩
 ·rw[run_slice_l W _ _ _ _ ht' .i64 _ (by omega) (by omega),hz]
  simp only[Result.andThen,sliced,Int.toNat_natCast,Nat.mul_one,Option.map_some]
  split<;>rfl
 ·rw[if_neg (by omega),Addr.add_lit,Nat.zero_add]
theorem at_slot(n:Nat){P:Program}{w:World}{ops:Array Oper}{rest:List Oper}{op:Op}{ty:TypeId}{pos:String}{after:Array Edge}{guard:Option (Nat×Bool)}{a:Act}{Q:Exit->Act->World->Prop}
 (h:wpList P ops Q (⟨some n,op,ty,pos,after,guard⟩::rest) a w):wpList P ops Q (⟨some n,op,ty,pos,after,guard⟩::rest) a w:=h
theorem Bf.copy{w wr:World}{T p m c:Nat}{zs x:List Int}(h:Bf w wr T zs)(hz:zs.length=p){ops:Array Oper}{rest:List Oper}{o:Oper}{a:Act}{Q:Exit->Act->World->Prop}(hgd:o.guard=none)(d s:Operand)
 (ho:o.op= .call {callee:= .builtin .copy,args:= #[d,s],argTypes:= #[24,24]}) (tl:Addr) (dl dc:Nat) (hdl:dl=T-p) (htl:p<T->tl=⟨w.heap.size,p,none⟩) (hd:a.eval d= .slice (some tl) dl dc)
 (A:Option Addr) (hs:a.eval s= .slice A m c) (hx:x.length=m) (hr:Rd w A (iv .u8 x)) (hfit:p+m<=T)
 (hk:∀w',Bf w w' T (zs++x)->wpList Tryz.prog ops Q rest (a.put o.dst (.int .i64 (m:Int))) w'):wpList Tryz.prog ops Q (o::rest) a wr:=by
 subst hz hx hdl
 obtain⟨cur,hg,hT,ht,hl⟩:=h.ex
 have hil:=iv_len .u8 x
 refine wpList_copy_splice hgd d s _ _ ho 5 Tryz.underlying24 hs8 (some tl) A _ _ _ _ hd hs w.heap.size zs.length cur 5 hg (iv .u8 x) (by rw[hil];exact(Nat.min_eq_left (by omega)).symm) ?_ (by rw[hil];omega) (iv_one _ _) w.heap.size w h.kp.below (Nat.le_refl _) ?_
 ·intro hp
  rw[hil] at hp
  refine⟨by rw[htl (by omega)], ?_⟩
  obtain⟨ad,rfl,_⟩:=hr.lt (by rw[hil];exact hp)
  refine⟨ad,rfl,fun j v hv=> ?_⟩
  obtain⟨ad',he,hc⟩:=(h.kp.rd_new hr (by simp)) j v hv
  cases he
  exact hc
 ·intro w' hw' hb'
  rw[hil]
  refine hk w' ⟨Kp.of_below hb' _,_,hw'.out, ?_, ?_, ?_⟩
  ·rw[length_splice _ _ _ (by rw[hil];omega)]
   exact hT
  ·have e1:min (zs.length+x.length) zs.length=zs.length:=by omega
   have e2:min zs.length cur.length=zs.length:=by omega
   have e3:zs.length+x.length-zs.length=x.length:=by omega
   unfold splice
   rw[iv_app,List.length_append,List.take_append,List.take_append,List.take_take,List.length_take,hil,e1,e2,e3,ht,List.take_of_length_le (by rw[hil];exact Nat.le_refl _),Nat.sub_self,List.take_zero,List.append_nil]
  ·rw[List.length_append]
   exact hfit
theorem Bf.rd{w wr:World}{T:Nat}{zs:List Int}(h:Bf w wr T zs):Rd wr (some ⟨w.heap.size,0,none⟩) (iv .u8 zs):=by
 obtain⟨cur,hg,hT,ht,hl⟩:=h.ex
 intro j v hv
 refine⟨_,rfl, ?_⟩
 rw[<-ht,List.getElem?_take] at hv
 split at hv
 ·rw[Addr.add_lit,Nat.zero_add]
  exact bkc hg j (by simpa using hv)
 ·cases hv
theorem Bf.lt{w wr:World}{T:Nat}{zs:List Int}(h:Bf w wr T zs):w.heap.size<wr.heap.size:=by
 obtain⟨cur,hg,_⟩:=h.ex
 exact lt_of_block hg
def JoinPost(xs:List Int)(w:World)(e:Ending)(w':World):Prop:=
 ∃v,e= .returned v/\Kp [] w w'/\(Own 5 .u8 w' w.heap.size v xs\/∃g,v= .slice (some ⟨g,0,none⟩) xs.length xs.length/\w.heap.size<=g/\g<w'.heap.size/\Rd w' (some ⟨g,0,none⟩) (iv .u8 xs))
theorem flat_step(l:List (List Int))(k:Nat)(h:k<l.length):(l.take (k+1)).flatten=(l.take k).flatten++l[k]:=by
 rw[take_succ' l k h,List.flatten_append]
 simp
theorem flat_le(l:List (List Int))(k:Nat):(l.take k).flatten.length<=l.flatten.length:=by
 have h:=congrArg (fun z=>z.flatten.length) (List.take_append_drop k l)
 simp only[List.flatten_append,List.length_append] at h
 omega
theorem join_many(A:Option Addr)(n c:Nat)(l:List (List Int))(w:World)(hn:l.length=n)(h2:2<=n)(hr:Rs [] w A l)(hc:n<=c)(hw:∀x∈l,Wf x)(hb:l.flatten.length<=140737488351232)(hm:n<=140737488351232):
 Calls Tryz.prog 141 #[.slice A n c,.slice none 0 0] w (JoinPost l.flatten w):=by
 obtain⟨a,rfl⟩:∃a,A=some a:=by
  obtain⟨a,_,_,h,_⟩:=hr 0 (by omega)
  exact⟨a,h⟩
 have HR:=As.mk hr
 have HL:=As.mk hn
 have HW:=As.mk hw
 clear hr hn hw
 have f0:((n:Int)==0)=false:=beq_eq_false_iff_ne.2 (by omega)
 have f1:((n:Int)==1)=false:=beq_eq_false_iff_ne.2 (by omega)
 have hs8:(Tryz.prog.info? 5).map (·.size)=some 1:=by kernel_rfl
 go_enter Tryz.func141,Tryz.ntmps141
 go_wp2
 go_loopw [5,44] (fun s5 s44 wr=>∃k:Nat,s44= .int .i64 (k:Int)/\k<=n/\s5= .int .i64 (((l.take k).flatten.length:Nat):Int)/\As (wr=w)) (fun _ i _=>n-(intOf i).toNat)
 case atStart=>exact⟨0,rfl,by omega,rfl,⟨rfl⟩⟩
 case round=>
  obtain⟨k,rfl,hk,rfl,⟨rfl⟩⟩:=hrel
  by_cases hlt:k<n
  ·have hlx:k<l.length:=by rw[HL.out];exact hlt
   obtain⟨a',Aj,cj,ha',_,d0,hcj,_,_⟩:=HR.out k hlx
   cases ha'
   have hfs:=congrArg List.length (flat_step l k hlx)
   have hfl:=flat_le l (k+1)
   rw[List.length_append] at hfs
   obtain⟨len,hlen⟩:∃len,l[k].length=len:=⟨_,rfl⟩
   obtain⟨acc,hacc⟩:∃acc,(l.take k).flatten.length=acc:=⟨_,rfl⟩
   obtain⟨acc',hacc'⟩:∃acc',(l.take (k+1)).flatten.length=acc':=⟨_,rfl⟩
   rw[hlen] at d0 hcj hfs
   rw[hacc,hacc'] at hfs
   rw[hacc'] at hfl
   rw[hacc]
   have hb':¬(9223372036854775807-(acc:Int)<(len:Int)):=by omega
   have HA':=As.mk hacc'
   have HFS:=As.mk hfs
   have HFL:acc+len<=l.flatten.length:=by omega
   clear hfs hfl hlen hacc hacc'
   go_wp2
   go_roundw
   case rel=>exact⟨k+1,by go_num,by omega,by rw[HA'.out,HFS.out];go_num,⟨trivial⟩⟩
   case measure=>simp[intOf];omega
  ·obtain rfl:k=n:=by omega
   have hall:l.take k=l:=List.take_of_length_le (by rw[HL.out];omega)
   rw[hall]
   obtain⟨T,hT⟩:∃T,l.flatten.length=T:=⟨_,rfl⟩
   rw[hT] at hb⊢
   have HT:=As.mk hT
   clear hall hT
   obtain⟨cs,hrunM,hle,_⟩:=Lib.run_makeNoZero (P:=Tryz.prog) wr #[3] 24 5 Tryz.underlying24 T (by omega)
   have hcall:(callFunc 142 #[.int .i64 (T:Int)]).run Tryz.prog wr= .ok (.value (.slice (some ⟨wr.heap.size,0,none⟩) T cs.size)) ((wr.alloc (.cells cs 5)).drewN 2):=by
    rw[run_callFunc_extern Tryz.func142 (by kernel_rfl) (by kernel_rfl) (by kernel_rfl) (e:=Extern.BytealgMakeNoZero.makeNoZero #[3] #[24]) (by kernel_rfl),hrunM]
    rfl
   have i0:(0:Int)<=(T:Int):=by omega
   have i1:(T:Int)<=(cs.size:Int):=by omega
   have B0:Bf wr ((wr.alloc (.cells cs 5)).drewN 2) T []:=⟨((Kp.refl [] wr).alloc _).drewN 2,cs.toList,by
    have:=heap_alloc_new wr (.cells cs 5)
    simpa using this,by simpa using hle,by simp[iv],Nat.zero_le _⟩
   obtain⟨a',A0,c0,ha',_,d0,hc0,_,r0⟩:=HR.out 0 (by rw[HL.out];omega)
   cases ha'
   obtain⟨x0,hx0⟩:∃x0,x0=l[0]'(by rw[HL.out];omega):=⟨_,rfl⟩
   rw[<-hx0] at d0 hc0 r0
   obtain⟨m0,hm0⟩:∃m0,x0.length=m0:=⟨_,rfl⟩
   rw[hm0] at d0 hc0
   have e0:=B0.kp.cell d0 (by simp)
   rw[add_zero'] at e0
   have hfit0:0+m0<=T:=by
    have h1:=flat_step l 0 (by rw[HL.out];omega)
    have h2:=flat_le l 1
    rw[h1,List.take_zero,List.flatten_nil,List.nil_append,<-hx0,hm0,HT.out] at h2
    omega
   have HB0:=As.mk B0
   have HR0:=As.mk r0.rd
   have HM0:=As.mk hm0
   have HX0:=As.mk hx0
   clear hrunM B0 r0 d0 hx0 hm0
   go_wp2_with (with_reducible refine at_slot 68 ?_;go_loud (refine HB0.out.copy (p:=0) rfl rfl (.tmp 64) (.tmp 67) rfl ⟨wr.heap.size,0,none⟩ T T (Nat.sub_zero T).symm (fun _=>rfl) rfl A0 rfl HM0.out HR0.out hfit0 ?_);go_loud (intro w1 B1);go_loud (have HB1:=As.mk B1);rw[List.nil_append] at HB1;clear B1)
   obtain⟨w0,rfl⟩:∃w0,w0=wr:=⟨_,rfl⟩
   have HC0:As ((l.take (0+1)).flatten=x0):=⟨by rw[flat_step l 0 (by rw[HL.out];omega),List.take_zero,List.flatten_nil,List.nil_append,<-HX0.out]⟩
   have hc1:¬c=1:=by omega
   go_loopw [9,72] (fun s9 s72 wr=>∃j:Nat,s72= .int .i64 (j:Int)/\j<=k-1/\s9= .int .i64 (((l.take (j+1)).flatten.length:Nat):Int)/\As (Bf w0 wr T (l.take (j+1)).flatten)) (fun _ i _=>k-1-(intOf i).toNat)
   case atStart=>exact⟨0,rfl,by omega,by rw[HC0.out,HM0.out],⟨by rw[HC0.out];exact HB1.out⟩⟩
   case round=>
    obtain⟨j,rfl,hj,rfl,HB⟩:=hrel
    obtain⟨p,hp⟩:∃p,(l.take (j+1)).flatten.length=p:=⟨_,rfl⟩
    rw[hp]
    have hpT:p<=T:=by have:=flat_le l (j+1);rw[hp,HT.out] at this;exact this
    have HP:=As.mk hp
    by_cases hlt:j<k-1
    ·have hlx:j+1<l.length:=by rw[HL.out];omega
     obtain⟨a',Aj,cj,ha',_,d1,hcj,_,rj⟩:=HR.out (j+1) hlx
     cases ha'
     obtain⟨x,hx⟩:∃x,x=l[j+1]:=⟨_,rfl⟩
     rw[<-hx] at d1 hcj rj
     obtain⟨len,hlen⟩:∃len,x.length=len:=⟨_,rfl⟩
     rw[hlen] at d1 hcj
     have d2:=HB.out.kp.cell d1 (by simp)
     rw[show a.add (j+1)=⟨a.block,a.off+1+j,none⟩ from by unfold Addr.add;rw[if_neg (by omega)];congr 1;omega] at d2
     have hstep:=flat_step l (j+1) hlx
     rw[<-hx] at hstep
     have hlens:=congrArg List.length hstep
     rw[List.length_append,hp,hlen] at hlens
     have hfit:p+len<=T:=by have:=flat_le l (j+1+1);rw[hlens,HT.out] at this;exact this
     obtain⟨tl,hsl,htl⟩:=tail_of w0.heap.size T p hpT
     have HLEN:=As.mk hlen
     have HRJ:=As.mk rj.rd
     have HSTEP:=As.mk hstep
     have HLENS:=As.mk hlens
     have HTL:=As.mk htl
     have hjz:(j:Int)<((k-1:Nat):Int):=by omega
     clear hx d1 rj hstep hlens htl hlen hp
     go_wp2_with (first
      |(with_reducible refine at_slot 81 ?_;refine wpList_copy_nothing rfl (.tmp 79) (.tmp 80) 24 24 rfl 5 Tryz.underlying24 hs8 (some tl) none (T-p) (T-p) 0 0 rfl rfl (Nat.zero_min _) ?_)
      |(with_reducible refine at_slot 88 ?_;refine HB.out.copy HP.out rfl (.tmp 86) (.tmp 87) rfl tl (T-p) (T-p) rfl HTL.out rfl Aj rfl HLEN.out HRJ.out hfit ?_;intro w5 B5;have HB5:=As.mk B5;clear B5))
     go_roundw
     case rel=>exact⟨j+1,by go_num,by omega,by rw[HLENS.out];go_num,⟨by rw[HSTEP.out];exact HB5.out⟩⟩
     case measure=>simp[intOf];omega
    ·obtain rfl:j=k-1:=by omega
     have hjz:¬(((k-1:Nat):Int)<((k-1:Nat):Int)):=by omega
     have hall:l.take (k-1+1)=l:=List.take_of_length_le (by rw[HL.out];omega)
     rw[hall] at HB
     clear hp
     go_wp2
     go_ret
     exact⟨_,rfl,HB.out.kp,.inr ⟨w0.heap.size,by rw[HT.out];rfl,Nat.le_refl _,HB.out.lt,HB.out.rd⟩⟩
theorem join_any(A:Option Addr)(n c:Nat)(l:List (List Int))(w:World)(hn:l.length=n)(hr:Rs [] w A l)(hc:n<=c)(hw:∀x∈l,Wf x)(hb:l.flatten.length<=140737488351232)(hm:n<=140737488351232):
 Calls Tryz.prog 141 #[.slice A n c,.slice none 0 0] w (JoinPost l.flatten w):=by
 by_cases h2:2<=n
 ·exact join_many A n c l w hn h2 hr hc hw hb hm
 ·by_cases h0:n=0
  ·subst h0
   have hl:l=[]:=List.eq_nil_of_length_eq_zero hn
   subst hl
   clear hr hw hb
   go_enter Tryz.func141,Tryz.ntmps141
   go_wp2
   go_ret
   exact⟨_,rfl,(Kp.refl [] w).alloc _,.inl ⟨own_new w [] _ (Nat.zero_le _),by simp[Value.ownBlock]⟩⟩
  ·obtain rfl:n=1:=by omega
   obtain⟨a,A0,c0,rfl,_,d0,hc0,hn0,r0⟩:=hr 0 (by omega)
   obtain⟨x,hx⟩:∃x,x=l[0]'(by omega):=⟨_,rfl⟩
   rw[<-hx] at d0 hc0 r0
   rw[add_zero'] at d0
   obtain⟨m,hlen⟩:∃m,x.length=m:=⟨_,rfl⟩
   rw[hlen] at d0 hc0
   have hfl:l.flatten=x:=by
    match l,hn,hx with
    |[y],_,hx=>rw[hx];simp
   rw[hfl] at hb⊢
   rw[hlen] at hb
   have HR:=As.mk r0.rd
   have HN:=As.mk hn0
   have HX:=As.mk hlen
   clear hr hw hx hn r0 hn0 hlen hfl
   go_enter Tryz.func141,Tryz.ntmps141
   go_wp2_with (at_builtin;refine clone.app8 rfl (.const (.slice none 0 0)) (.tmp 21) rfl (.slice none 0 0) 0 [] rfl (World.ownsRow_nil w 0 _ 1) A0 m c0 (iv .u8 x) rfl (by rw[iv_len,HX.out]) HR.out HN.out (iv_one _ _) (by omega) ?_;intro v6 w6 o6 k6 a6;have HO6:=As.mk o6;have HK6:=As.mk k6;have HA6:=As.mk a6;clear o6 k6 a6)
   go_ret
   exact⟨v6,rfl,HK6.out.mono (by simp[Value.ownBlock]),.inl (own_of_app HX.out HO6.out HA6.out (Nat.le_refl _) (by simp[Value.ownBlock]))⟩
theorem ojoin_any(A:Option Addr)(n c:Nat)(l:List (List Int))(w:World)(hn:l.length=n)(hr:Rs [] w A l)(hc:n<=c)(hw:∀x∈l,Wf x)(hb:l.flatten.length<=140737488351232)(hm:n<=140737488351232):
 Calls Tryz.prog 133 #[.slice A n c] w (JoinPost l.flatten w):=by
 have HJ:=As.mk (join_any A n c l w hn hr hc hw hb hm)
 clear hn hr hw hb
 go_enter Tryz.func133,Tryz.ntmps133
 go_wp2_with (go_at_call 141;refine HJ.out.mono ?_;rintro e w1 ⟨v,rfl,k1,o1⟩;have HK:=As.mk k1;have HO:=As.mk o1;clear k1 o1)
 go_ret
 exact⟨v,rfl,HK.out,HO.out⟩
theorem post_rd{xs:List Int}{w w':World}{v:Value}(o:Own 5 .u8 w' w.heap.size v xs\/∃g,v= .slice (some ⟨g,0,none⟩) xs.length xs.length/\w.heap.size<=g/\g<w'.heap.size/\Rd w' (some ⟨g,0,none⟩) (iv .u8 xs))
 (n:Nat) (hn:xs.length=n) (hm:n<=140737488351232):∃A c,v= .slice A n c/\n<=c/\c<=9223372036854775807/\Rd w' A (iv .u8 xs)/\(A=none->c=0):=by
 subst hn
 rcases o with o|⟨g,rfl,_,_,h⟩
 ·obtain⟨A,c,rfl,h1,h2,h3,h4⟩:=own_rd o.1
  exact⟨A,c,rfl,h1,h2,h3,h4⟩
 ·exact⟨_,_,rfl,Nat.le_refl _,by omega,h,by simp⟩
end Go.Proofs.YtdiljpdohmeceaaGreat.joins
namespace Go.Proofs.YtdiljpdohmeceaaGreat.frame
open Go.RowKit H O
theorem equal_any(A0 A1:Option Addr)(n0 c0 n1 c1:Nat)(xs ys:List Int)(w:World)(l0:xs.length=n0)(l1:ys.length=n1)(h0:Rd w A0 (iv .u8 xs))(h1:Rd w A1 (iv .u8 ys))(w0:Wf xs)(w1:Wf ys):
 Calls Tryz.prog 138 #[.slice A0 n0 c0,.slice A1 n1 c1] w fun e w'=>e= .returned (.bool (decide (xs=ys)))/\w'=w:=by
 have hcv:∀(A:Option Addr) (n c:Nat) (zs:List Int),zs.length=n->Rd w A (iv .u8 zs)->(convert 24 9 (.slice A n c)).run Tryz.prog w= .ok (.string (strOfNums zs)) w:=by
  intro A n c zs hz hr
  by_cases hn:0<n
  ·obtain⟨a,rfl,d0⟩:=hr.int 0 (by omega)
   obtain⟨b,o,s⟩:=a
   obtain rfl:s=none:=by simpa [Addr.add] using World.cell?_spot d0
   refine run_convert_bytes_arg w 24 5 Tryz.underlying24 Tryz.underlying5 b o n c zs hz ?_ 9 Tryz.underlying9
   intro i hi
   obtain⟨_,e,d⟩:=hr.int i (by omega)
   cases e
   rw[Go.WideShapes.add_plain] at d
   rw[d]
   simp[List.getD,show i<zs.length by omega]
  ·obtain rfl:n=0:=by omega
   obtain rfl:zs=[]:=List.eq_nil_of_length_eq_zero hz
   rw[run_convert_bytes_string w 24 9 5 _ 0 c Tryz.underlying24 Tryz.underlying5 Tryz.underlying9]
   cases A<;>rfl
 have k0:=hcv A0 n0 c0 xs l0 h0
 have k1:=hcv A1 n1 c1 ys l1 h1
 clear hcv
 go_enter Tryz.func138,Tryz.ntmps138
 go_wp2
 go_ret
 refine⟨?_,rfl⟩
 have hxy:((strOfNums xs).toList==(strOfNums ys).toList)=decide (xs=ys):=by
  rw[ByteArray.toList_eq,ByteArray.toList_eq,strOfNums_data,strOfNums_data,Bool.eq_iff_iff,beq_iff_eq,decide_eq_true_eq]
  constructor
  ·exact byte_map_inj w0 w1
  ·rintro rfl;rfl
 rw[<-hxy]
 rfl
end Go.Proofs.YtdiljpdohmeceaaGreat.frame
namespace Go.Proofs.YtdiljpdohmeceaaGreat.opk
open Go.RowKit H O haystacklaw13
theorem conv_str{w:World}{A:Option Addr}{n c:Nat}{zs:List Int}(hz:zs.length=n)(hr:Rd w A (iv .u8 zs)):(convert 24 9 (.slice A n c)).run Tryz.prog w= .ok (.string (strOfNums zs)) w:=by
 by_cases hn:0<n
 ·obtain⟨a,rfl,d0⟩:=hr.int 0 (by omega)
  obtain⟨b,o,s⟩:=a
  obtain rfl:s=none:=by simpa [Addr.add] using World.cell?_spot d0
  refine run_convert_bytes_arg w 24 5 Tryz.underlying24 Tryz.underlying5 b o n c zs hz ?_ 9 Tryz.underlying9
  intro i hi
  obtain⟨_,e,d⟩:=hr.int i (by omega)
  cases e
  rw[Go.WideShapes.add_plain] at d
  rw[d]
  simp[List.getD,show i<zs.length by omega]
 ·obtain rfl:n=0:=by omega
  obtain rfl:zs=[]:=List.eq_nil_of_length_eq_zero hz
  rw[run_convert_bytes_string w 24 9 5 _ 0 c Tryz.underlying24 Tryz.underlying5 Tryz.underlying9]
  cases A<;>rfl
theorem kb_str{zs:List Int}(h:Wf zs):kb (strOfNums zs)=zs:=by
 rw[kb,strOfNums_data,List.map_map]
 conv=>rhs;rw[<-List.map_id zs]
 refine List.map_congr_left fun x hx=> ?_
 have:=h x hx
 simp only[Function.comp,UInt8.toNat_ofNat',id]
 omega
theorem str_size(zs:List Int):(strOfNums zs).size=zs.length:=strOfNums_size zs
theorem stBytes_left{s:Option (List Int)}{m:Nat}(h:(left s).length<=m):(left (stBytes s).2).length<=m:=by
 unfold stBytes
 have h1:=reader.left_le h
 obtain⟨a,s1⟩:∃a,(stNum s).2=a:=⟨_,rfl⟩
 rw[s1] at h1⊢
 cases a with
 |none=>simp[stRaw,left]
 |some l=>
  simp only[stRaw]
  split
  ·simp[left]
  ·simp only[left,Option.getD_some,List.length_drop] at h1⊢
   omega
theorem stNum_wf{s:Option (List Int)}(h:Wf (left s)):Wf (left (stNum s).2):=by
 cases s with
 |none=>exact Wf.nil
 |some l=>
  cases hd:dec l with
  |none=>simp only[stNum,hd];exact Wf.nil
  |some x=>
   obtain⟨v,r⟩:=x
   obtain⟨q,e,_⟩:=dec_suffix hd
   simp only[stNum,hd,left,Option.getD_some] at h⊢
   intro y hy
   exact h y (by rw[e];simp[hy])
end Go.Proofs.YtdiljpdohmeceaaGreat.opk
namespace Go.Proofs.YtdiljpdohmeceaaGreat.H
open Go.RowKit
theorem el1(T E:TypeId)(h:Tryz.prog.elem T=E)(hs:(Tryz.prog.info? E).map (·.size)=some 1)(hc:Tryz.prog.cellsOf E=1):∀w,(Go.sizeOf (Tryz.prog.elem T)).run Tryz.prog w= .ok 1 w:=fun w=>by
 obtain⟨i,hi,_⟩:=Option.map_eq_some_iff.1 hs
 rw[h,run_sizeOf w hi,hc]
theorem slice_tail{T:TypeId}(ht:Tryz.prog.underlying T=some (.slice (Tryz.prog.elem T)))(hz:∀w,(Go.sizeOf (Tryz.prog.elem T)).run Tryz.prog w= .ok 1 w)(a:Addr)(n c p:Nat)(hb:p<=n)(hc:n<=c):
 ∃a2:Addr,(∀W,(Instr.slice T (.slice (some a) n c) (some (.int .i64 (p:Int))) none none).run Tryz.prog W= .ok (.slice (some a2) (n-p) (c-p)) W)/\∀w vs,vs.length=n->Rd w (some a) vs->Rd w (some a2) (vs.drop p):=by
 refine⟨cutAt a c p,fun W=> ?_,fun w vs hl hr=>hr.cut (by omega)⟩
 rw[run_slice_l W _ _ _ _ ht .i64 _ (by omega) (by omega),hz]
 simp only[Result.andThen,sliced,Int.toNat_natCast,Nat.mul_one,Option.map_some,cutAt]
 split<;>rfl
theorem slice_head{T:TypeId}(ht:Tryz.prog.underlying T=some (.slice (Tryz.prog.elem T)))(hz:∀w,(Go.sizeOf (Tryz.prog.elem T)).run Tryz.prog w= .ok 1 w)(a:Option Addr)(n c h:Nat)(hc:h<=c)(hn:a=none->c=0):
 ∀W,(Instr.slice T (.slice a n c) none (some (.int .i64 (h:Int))) none).run Tryz.prog W= .ok (.slice a h c) W:=fun W=>by
 rw[run_slice_h W _ _ _ _ ht .i64 _ (by omega) (by omega),hz]
 simp only[Result.andThen,sliced,Int.toNat_natCast,Nat.sub_zero]
 split
 ·rfl
 ·cases a with
  |none=>rfl
  |some a=>simp[add_zero']
theorem slice_mid{T:TypeId}(ht:Tryz.prog.underlying T=some (.slice (Tryz.prog.elem T)))(hz:∀w,(Go.sizeOf (Tryz.prog.elem T)).run Tryz.prog w= .ok 1 w)(b o n c p h:Nat)(hp:p<=h)(hh:h<=c)(hc:c≠p):
 ∀W,(Instr.slice T (.slice (some ⟨b,o,none⟩) n c) (some (.int .i64 (p:Int))) (some (.int .i64 (h:Int))) none).run Tryz.prog W= .ok (.slice (some ⟨b,o+p,none⟩) (h-p) (c-p)) W:=fun W=>by
 rw[run_slice_lh W _ _ _ _ ht .i64 .i64 _ _ (by omega) (by omega) (by omega),hz]
 simp only[Result.andThen,sliced,Int.toNat_natCast,Nat.mul_one,Option.map_some,if_neg hc]
 rw[Go.WideShapes.add_plain]
theorem ht8:Tryz.prog.underlying 24=some (.slice (Tryz.prog.elem 24)):=by kernel_rfl
theorem hz8:∀w,(Go.sizeOf (Tryz.prog.elem 24)).run Tryz.prog w= .ok 1 w:=el1 _ 5 (by kernel_rfl) (by kernel_rfl) (by kernel_rfl)
theorem htI:Tryz.prog.underlying 53=some (.slice (Tryz.prog.elem 53)):=by kernel_rfl
theorem hzI:∀w,(Go.sizeOf (Tryz.prog.elem 53)).run Tryz.prog w= .ok 1 w:=el1 _ 3 (by kernel_rfl) (by kernel_rfl) (by kernel_rfl)
end Go.Proofs.YtdiljpdohmeceaaGreat.H
namespace Go.Proofs.YtdiljpdohmeceaaGreat.ref
open Go.RowKit H O
def Sofar(v:Int)(w:World)(b:Value)(u:Nat)(wr:World):Prop:=∃pre,pre++enc u=num v/\Own 5 .u8 wr w.heap.size b pre/\Kp [] w wr
theorem own_app{w1 wr:World}{b v1:Value}{pre:List Int}{y:Int}{m lo n:Nat}(ho:Own 5 .u8 wr lo b pre)(hm:pre.length=m)(hlo:lo<=n)
 (o1:w1.ownsRow 0 5 1 v1 (m+1) (iv .u8 pre++[.int .u8 y])) (a1:At n b.ownBlock v1.ownBlock):Own 5 .u8 w1 lo v1 (pre++[y]):=by
 subst hm
 exact⟨by simpa [iv] using o1,a1.ge hlo ho.2⟩
theorem kp_app{w wr wa w1:World}{b:Value}{S:List Nat}(hk:Kp S w wr)(ka:Kp [] wr wa)(hb:∀g,b.ownBlock=some g->w.heap.size<=g)(k1:Kp b.ownBlock.toList wa w1):Kp S w w1:=
 (hk.trans ka (by simp)).row k1 (fun x hx=> .inr (hb x hx))
theorem num_any(v:Int)(w:World):Calls Tryz.prog 80 #[.int .i64 v] w (RetOwn 5 .u8 w (num v)):=by
 have hcase:4611686018427387904<v\/(¬4611686018427387904<v/\¬0<v)\/(¬4611686018427387904<v/\0<v):=by omega
 obtain⟨u,hu⟩:∃u,u=cl v:=⟨_,rfl⟩
 have hB:=cl_le v
 rw[<-hu] at hB
 have H0:As (Sofar v w (.slice none 0 0) u w):=⟨[],by rw[hu];rfl,Own.nil _ _ _ _,Kp.refl _ _⟩
 have HB:=As.mk hB
 have HU:=As.mk hu
 clear hu hB
 rcases hcase with h1|⟨h1,h2⟩|⟨h1,h2⟩
 all_goals
  go_enter Tryz.func80,Tryz.ntmps80
  go_wp2
  go_loopw [3,4] (fun s b wr=>∃u2:Nat,s= .int .u64 (u2:Int)/\As (u2<=4611686018427387904)/\As (Sofar v w b u2 wr)) (fun s _ _=>(intOf s).toNat)
  case atStart=>exact⟨u,by congr 1;rw[HU.out];unfold cl;split<;>(try split)<;>omega,HB,H0⟩
  case round=>
   obtain⟨u2,rfl,HU2,⟨pre,hpre,ho,hk⟩⟩:=hrel
   obtain⟨m,hm⟩:∃m,pre.length=m:=⟨_,rfl⟩
   have HO:=As.mk ho
   have HO1:As (wr.ownsRow 0 5 1 u4 m (iv .u8 pre)):=⟨by rw[<-hm];exact ho.1⟩
   have HK:=As.mk hk
   have HP:=As.mk hpre
   have HM:=As.mk hm
   clear ho hk hpre hm
   have HBD:As (m+1<=140737488355328):=by
    constructor
    have h2:=num_len v
    have h3:=enc_pos u2
    have h4:=HM.out
    rw[<-HP.out] at h2
    simp only[List.length_append] at h2
    omega
   by_cases hge:128<=u2
   ·have hor:=or128' u2 HU2.out
    go_wp2_with (at_builtin;refine clone.app8_one rfl (.tmp 13) (.tmp 18) rfl u4 m (iv .u8 pre) rfl HO1.out ((u2:Int)%128+128) rfl HBD.out ?_;intro v1 w1 o1 k1 a1;have O1:=As.mk (own_app HO.out HM.out (Nat.le_succ_of_le HK.out.size) o1 a1);have K1:=As.mk (kp_app HK.out ((Kp.refl [] wr).alloc _) HO.out.2 k1);clear o1 k1 a1)
    go_roundw
    case rel=>exact⟨u2/128,by go_num,⟨by have:=HU2.out;omega⟩,⟨pre++[(u2:Int)%128+128],by rw[<-HP.out,enc_hi (u:=u2) (by omega),List.append_assoc,List.singleton_append],O1.out,K1.out⟩⟩
    case measure=>simp[intOf];omega
   ·go_wp2_with (at_builtin;refine clone.app8_one rfl (.tmp 22) (.tmp 25) rfl u4 m (iv .u8 pre) rfl HO1.out (u2:Int) rfl HBD.out ?_;intro v1 w1 o1 k1 a1;have O1:=As.mk (own_app HO.out HM.out (Nat.le_succ_of_le HK.out.size) o1 a1);have K1:=As.mk (kp_app HK.out ((Kp.refl [] wr).alloc _) HO.out.2 k1);clear o1 k1 a1)
    go_ret
    exact⟨v1,rfl,by have h9:=O1.out;rw[<-HP.out,enc_lo (u:=u2) (by omega)];exact h9,K1.out⟩
theorem own_apps{w1 wr:World}{b v1:Value}{pre ys:List Int}{m lo n k:Nat}(ho:Own 5 .u8 wr lo b pre)(hm:pre.length=m)(hk:ys.length=k)(hlo:lo<=n)
 (o1:w1.ownsRow 0 5 1 v1 (m+k) (iv .u8 pre++iv .u8 ys)) (a1:At n b.ownBlock v1.ownBlock):Own 5 .u8 w1 lo v1 (pre++ys):=by
 subst hm hk
 exact⟨by simpa [iv] using o1,a1.ge hlo ho.2⟩
theorem nums_any(A:Option Addr)(n c:Nat)(vs:List Int)(w:World)(hn:vs.length=n)(h0:Rd w A (iv .i64 vs))(hb:n<=7036874417766):
 Calls Tryz.prog 41 #[.slice A n c] w (RetOwn 5 .u8 w (nums vs)):=by
 subst hn
 have HR:=As.mk h0
 clear h0
 go_enter Tryz.func41,Tryz.ntmps41
 go_wp2
 go_loopw [3,4] (fun b i wr=>∃k:Nat,i= .int .i64 (k:Int)/\k<=vs.length/\As (Own 5 .u8 wr w.heap.size b (nums (vs.take k))/\Kp [] w wr)) (fun _ i _=>vs.length-(intOf i).toNat)
 case atStart=>exact⟨0,rfl,by omega,⟨Own.nil _ _ _ _,Kp.refl _ _⟩⟩
 case round=>
  obtain⟨k,rfl,hk,HH⟩:=hrel
  have HO:=As.mk HH.out.1
  have HK:=As.mk HH.out.2
  clear HH
  by_cases hlt:k<vs.length
  ·obtain⟨a,rfl,d0⟩:=(show Rd wr A (iv .i64 vs) from HK.out.rd_new HR.out (by simp)).int k hlt
   obtain⟨x,hx⟩:∃x,x=vs[k]:=⟨_,rfl⟩
   rw[<-hx] at d0
   obtain⟨m,hm⟩:∃m,(nums (vs.take k)).length=m:=⟨_,rfl⟩
   have HX:=As.mk hx
   have HM:=As.mk hm
   have HBD:As (m+(num x).length<=140737488355328):=by
    constructor
    have h1:=nums_len (vs.take k)
    have h2:=num_len x
    rw[List.length_take] at h1
    omega
   clear hx hm
   go_wp2_with (first
    |(go_at_call 80;refine(num_any x _).mono ?_;rintro e w1 ⟨v,rfl,ho1,hk1⟩;obtain⟨A1,c1,rfl,hl1,hm1,hr1,hn1⟩:=own_rd ho1.1;have HO1:=As.mk (HO.out.kp hk1 (by simp));have HOM:As (w1.ownsRow 0 5 1 u3 m (iv .u8 (nums (vs.take k)))):=⟨by rw[<-HM.out];exact HO1.out.1⟩;have HK1:=As.mk hk1;have HR1:=As.mk hr1;have HN1:=As.mk hn1;clear ho1 hk1 hl1 hm1 hr1 hn1)
    |(at_builtin;refine clone.app8 rfl (.tmp 11) (.tmp 16) rfl u3 m (iv .u8 (nums (vs.take k))) rfl HOM.out A1 (num x).length c1 (iv .u8 (num x)) rfl (iv_len _ _) HR1.out HN1.out (iv_one _ _) HBD.out ?_;intro v2 w2 o2 k2 a2;have HO2:=As.mk (own_apps HO1.out HM.out rfl (Nat.le_trans HK.out.size HK1.out.size) o2 a2);have HK2:=As.mk ((HK.out.trans HK1.out (by simp)).row k2 (fun y hy=> .inr (HO1.out.2 y hy)));clear o2 k2 a2))
   go_roundw
   case rel=>exact⟨k+1,by go_num,by omega,⟨by rw[nums_step vs k hlt,<-HX.out];exact HO2.out,HK2.out⟩⟩
   case measure=>simp[intOf];omega
  ·go_wp2
   go_ret
   have e:vs.take k=vs:=List.take_of_length_le (by omega)
   rw[e] at HO
   exact⟨_,rfl,HO.out,HK.out⟩
theorem bytes_any(A:Option Addr)(n c:Nat)(xs:List Int)(w:World)(hn:xs.length=n)(h0:Rd w A (iv .u8 xs))(hnil:A=none->c=0)(hb:n<=140737488351232):
 Calls Tryz.prog 43 #[.slice A n c] w (RetOwn 5 .u8 w (row xs)):=by
 have HR:=As.mk h0
 have HN:=As.mk hnil
 have HL:=As.mk hn
 clear h0 hnil hn
 obtain⟨m,hm⟩:∃m,(num (n:Int)).length=m:=⟨_,rfl⟩
 have HM:=As.mk hm
 have hm9:m<=9:=by rw[<-hm];exact num_len _
 clear hm
 go_enter Tryz.func43,Tryz.ntmps43
 go_wp2_with (first
  |(go_at_call 80;refine(num_any _ _).mono ?_;rintro e w1 ⟨v,rfl,ho1,hk1⟩;have HO1:=As.mk ho1;have HOM:As (w1.ownsRow 0 5 1 v m (iv .u8 (num n))):=⟨by rw[<-HM.out];exact ho1.1⟩;have HK1:=As.mk hk1;clear ho1 hk1)
  |(at_builtin;refine clone.app8 rfl (.tmp 5) (.tmp 6) rfl v m (iv .u8 (num n)) rfl HOM.out A n c (iv .u8 xs) rfl (by rw[iv_len,HL.out]) (HK1.out.rd_new HR.out (by simp)) HN.out (iv_one _ _) (by omega) ?_;intro v2 w2 o2 k2 a2;have HO2:=As.mk (own_apps HO1.out HM.out HL.out HK1.out.size o2 a2);have HK2:=As.mk (HK1.out.row k2 (fun y hy=> .inr (HO1.out.2 y hy)));clear o2 k2 a2))
 go_ret
 exact⟨_,rfl,by rw[row,HL.out];exact HO2.out,HK2.out⟩
end Go.Proofs.YtdiljpdohmeceaaGreat.ref
namespace Go.Proofs.YtdiljpdohmeceaaGreat.O
open Go.RowKit H
theorem info_i64:(Tryz.prog.info? 3).map (fun i=>(i.zero,i.size,i.bytes))=some (some (.int .i64 0),1,8):=by kernel_rfl
end Go.Proofs.YtdiljpdohmeceaaGreat.O
namespace Go.Proofs.YtdiljpdohmeceaaGreat.opk
open Go.RowKit H O haystacklaw13
theorem app64{w:World}{ops:Array Oper}{rest:List Oper}{o:Oper}{a:Act}{Q:Exit->Act->World->Prop}(hgd:o.guard=none)(s x:Operand)
 (ho:o.op= .call {callee:= .builtin .append,args:= #[s,x],argTypes:= #[53,53]})
 (v:Value) (n:Nat) (xs:List Value) (hs:a.eval s=v) (hown:w.ownsRow 0 3 1 v n xs)
 (A:Option Addr) (m c:Nat) (news:List Value) (hx:a.eval x= .slice A m c) (hl:news.length=m) (hrd:Rd w A news) (hnil:A=none->c=0) (h1:∀u∈news,u.oneCell'=true)
 (hm:n+m<=17592186044416)
 (h:∀v' w',w'.ownsRow 0 3 1 v' (n+m) (xs++news)->Kp v.ownBlock.toList w w'->At w.heap.size v.ownBlock v'.ownBlock->
  wpList Tryz.prog ops Q rest (a.put o.dst v') w'):wpList Tryz.prog ops Q (o::rest) a w:=
 wpList_app hgd s x 53 ho 3 (.int .i64 0) 1 8 Tryz.underlying53 info_i64 rfl (by decide) v n xs hs hown A m c news hx (by rw[hl,Nat.mul_one]) hrd hnil h1 (by omega) (by omega)
  (fun v' w' h1 h2 h3 _=>h v' w' h1 h2 h3)
theorem kp_lit{w w1:World}{o:Obj}{n c:Nat}(k:Kp (Value.slice (some ⟨w.heap.size,0,none⟩) n c).ownBlock.toList (w.alloc o) w1):Kp [] w w1:=
 ((Kp.refl [] w).alloc o).trans k (by simp[Value.ownBlock])
def repBytes(er:Int)(vs:List Int):List Int:=nums [er,((min vs.length 8:Nat):Int)]++nums (vs.take (min vs.length 8))
theorem repBytes_len(er:Int)(vs:List Int):(repBytes er vs).length<=100:=by
 unfold repBytes
 have h1:=nums_len [er,((min vs.length 8:Nat):Int)]
 have h2:=nums_len (vs.take (min vs.length 8))
 rw[List.length_append]
 simp only[List.length_cons,List.length_nil,List.length_take] at h1 h2
 omega
def RepAt(w:World)(b:Nat)(er:Int)(v:Value):Prop:=w.heap[b]?=some (.cells #[.int .i64 er,v] 157)
theorem RepAt.cells{w:World}{b:Nat}{er:Int}{v:Value}(h:RepAt w b er v):w.cell? ⟨b,0,none⟩=some (.int .i64 er)/\w.cell? ⟨b,1,none⟩=some v:=⟨bkc h 0 rfl,bkc h 1 rfl⟩
theorem RepAt.kp{S:List Nat}{w w1:World}{b:Nat}{er:Int}{v:Value}(h:RepAt w b er v)(hk:Kp S w w1)(hb:b∉S):RepAt w1 b er v:=hk.blk h hb
theorem RepAt.free{w:World}{b:Nat}{er:Int}{v:Value}(h:RepAt w b er v)(j:Nat):w.frozen? ⟨b,j,none⟩=false:=blk_free h j
theorem refRep_any(er:Int)(A:Option Addr)(n c:Nat)(vs:List Int)(w:World)(hn:vs.length=n)(hr:Rd w A (iv .i64 vs))(hc:n<=c)(hnil:A=none->c=0)(hm:n<=1000000):
 Calls Tryz.prog 16 #[.int .i64 er,.slice A n c] w (RetOwn 5 .u8 w (repBytes er vs)):=by
 obtain⟨k,hk⟩:∃k,k=min n 8:=⟨_,rfl⟩
 have hk8:k<=n/\k<=8:=by omega
 have HV:=As.mk (show Rd w A (iv .i64 (vs.take k)) from by have h:=hr.take k;rwa[iv_take] at h)
 have HLV:As ((vs.take k).length=k):=⟨by rw[List.length_take];omega⟩
 obtain⟨us,hus⟩:∃us,us=[er,(k:Int)]++vs.take k:=⟨_,rfl⟩
 obtain⟨T,hT⟩:∃T,T=2+k:=⟨_,rfl⟩
 have HFIN:As (nums us=repBytes er vs):=⟨by rw[repBytes,hn,<-hk,hus,nums_app]⟩
 have HUS:=As.mk hus
 have HT:=As.mk hT
 have hT9:T<=10:=by omega
 have HNIL:=As.mk hnil
 have HLU:As (us.length=T):=⟨by rw[hus,List.length_append,HLV.out,hT];rfl⟩
 have HNU:As (∀A3 c3 wX,Rd wX A3 (iv .i64 us)->Calls Tryz.prog 41 #[.slice A3 T c3] wX (RetOwn 5 .u8 wX (nums us))):=⟨fun A3 c3 wX r3=>ref.nums_any A3 T c3 us wX HLU.out r3 (by omega)⟩
 by_cases h8:8<n
 ·obtain rfl:k=8:=by omega
  have hsl:∀W,(Instr.slice 53 (.slice A n c) none (some (.int .i64 8)) none).run Tryz.prog W= .ok (.slice A 8 c) W:=slice_head htI hzI A n c 8 (by omega) hnil
  clear hr hn hnil hk hus hT
  go_enter Tryz.func16,Tryz.ntmps16
  go_wp2_with (first
   |(at_builtin;refine app64 rfl (.tmp 13) (.tmp 14) rfl (.slice (some ⟨w.heap.size,0,none⟩) 2 2) 2 [.int .i64 er,.int .i64 8] rfl (own_new w [.int .i64 er,.int .i64 8] _ (show 2<=maxLen by decide)) A 8 c (iv .i64 (vs.take 8)) rfl (by rw[iv_len,HLV.out]) (((Kp.refl [] w).alloc _).rd_new HV.out (by simp)) HNIL.out (iv_one _ _) (by decide) ?_;intro v2 w2 o2 k2 a2;have o2':w2.ownsRow 0 3 1 v2 T (iv .i64 us):=(by rw[HUS.out,HT.out,iv_app];exact o2);obtain⟨A2,c2,rfl,_,_,r2,_⟩:=own_rd o2';have HK2:As (Kp [] w w2):=⟨kp_lit k2⟩;have HN2:=As.mk (HNU.out A2 c2 w2 r2);clear o2 k2 a2 o2' r2)
   |(go_at_call 41;refine HN2.out.mono ?_;rintro e w3 ⟨v3,rfl,o3,k3⟩;have HO3:=As.mk (o3.lower HK2.out.size);have HK3:As (Kp [] w w3):=⟨HK2.out.trans k3 (by simp)⟩;clear o3 k3))
  go_ret
  rw[HFIN.out] at HO3
  exact⟨v3,rfl,HO3.out,HK3.out⟩
 ·obtain rfl:k=n:=by omega
  clear hr hn hnil hk hus hT
  go_enter Tryz.func16,Tryz.ntmps16
  go_wp2_with (first
   |(at_builtin;refine app64 rfl (.tmp 13) (.tmp 14) rfl (.slice (some ⟨w.heap.size,0,none⟩) 2 2) 2 [.int .i64 er,.int .i64 (k:Int)] rfl (own_new w [.int .i64 er,.int .i64 (k:Int)] _ (show 2<=maxLen by decide)) A k c (iv .i64 (vs.take k)) rfl (by rw[iv_len,HLV.out]) (((Kp.refl [] w).alloc _).rd_new HV.out (by simp)) HNIL.out (iv_one _ _) (by omega) ?_;intro v2 w2 o2 k2 a2;have o2':w2.ownsRow 0 3 1 v2 T (iv .i64 us):=(by rw[HUS.out,HT.out,iv_app];exact o2);obtain⟨A2,c2,rfl,_,_,r2,_⟩:=own_rd o2';have HK2:As (Kp [] w w2):=⟨kp_lit k2⟩;have HN2:=As.mk (HNU.out A2 c2 w2 r2);clear o2 k2 a2 o2' r2)
   |(go_at_call 41;refine HN2.out.mono ?_;rintro e w3 ⟨v3,rfl,o3,k3⟩;have HO3:=As.mk (o3.lower HK2.out.size);have HK3:As (Kp [] w w3):=⟨HK2.out.trans k3 (by simp)⟩;clear o3 k3))
  go_ret
  rw[HFIN.out] at HO3
  exact⟨v3,rfl,HO3.out,HK3.out⟩
theorem step64_one{w:World}{ops:Array Oper}{o:Oper}{a:Act}{K:Act->World->Prop}{Q:Exit->Act->World->Prop}{E:Prop}(hgd:o.guard=none)(s x:Operand)
 (ho:o.op= .call {callee:= .builtin .append,args:= #[s,x],argTypes:= #[53,53]})
 (v:Value) (n:Nat) (xs:List Value) (hs:a.eval s=v) (hown:w.ownsRow 0 3 1 v n xs) (g:Nat) (y:Int)
 (hx:a.eval x= .slice (some ⟨g,0,none⟩) 1 1) (hc:w.cell? ⟨g,0,none⟩=some (.int .i64 y)) (hm:n+1<=1000000)
 (h:∀v' w',w'.ownsRow 0 3 1 v' (n+1) (xs++[.int .i64 y])->Kp v.ownBlock.toList w w'->At w.heap.size v.ownBlock v'.ownBlock->K (a.put o.dst v') w'):
 if Region.wanted o (yielded ops a.tmps)=true then Oper.wp Tryz.prog o a w K Q else E:=by
 have hw:Region.wanted o (yielded ops a.tmps)=true:=by simp[Region.wanted,hgd]
 rw[if_pos hw]
 have hrd:Rd w (some ⟨g,0,none⟩) [.int .i64 y]:=by
  intro j u hj
  match j,hj with
  |0,hj=>simp at hj;subst hj;exact⟨_,rfl,by rw[add_zero'];exact hc⟩
 obtain⟨v',w',hr,h2,h3,h4,h5⟩:=run_app (P:=Tryz.prog) w 53 o.type 3 (.int .i64 0) 1 8 Tryz.underlying53 info_i64 rfl (by decide) v n xs hown (some ⟨g,0,none⟩) 1 1 [.int .i64 y] rfl hrd (by simp) (by simp[Value.oneCell']) (by omega) (by omega)
 unfold Oper.wp execOp
 simp only[ho,resolve,invoke,builtin,Sem.run_bind,Sem.run_pure,Result.andThen_ok,List.map_toArray,List.map_cons,List.map_nil,hs,hx,hr]
 exact h v' w' h2 h3 h4
def dRep(xs:List Int):Int×List Int×Int:=
 match stNum (some xs) with
 |(n0,s1)=>match stNum s1 with
  |(n1,s2)=>if n0<=100/\n1<=8/\(stNums n1 s2).2=some [] then((n0:Int),(stNums n1 s2).1,0) else(0,[],3)
theorem stNums_none(k:Nat):(stNums k none).2=none:=by
 induction k with
 |zero=>rfl
 |succ k ih=>exact ih
theorem stNums_stay{s:Option (List Int)}{k j:Nat}(h:(stNums k s).2=none)(hj:k<=j):(stNums j s).2=none:=by
 induction j with
 |zero=>obtain rfl:k=0:=by omega
        exact h
 |succ j ih=>
  by_cases e:k=j+1
  ·rw[<-e];exact h
  ·rw[reader.stNums_snoc,ih (by omega)]
   rfl
def sRep(n0 n1:Nat)(s2:Option (List Int)):Option (List Int):=if n0<=100/\n1<=8 then s2 else none
theorem dRep_eq{xs:List Int}{n0 n1:Nat}{s1 s2:Option (List Int)}(h0:stNum (some xs)=(n0,s1))(h1:stNum s1=(n1,s2)):
 dRep xs=if(stNums n1 (sRep n0 n1 s2)).2=some [] then((n0:Int),(stNums n1 (sRep n0 n1 s2)).1,0) else(0,[],3):=by
 simp only[dRep,h0,h1]
 generalize hs':sRep n0 n1 s2=s'
 by_cases h:n0<=100/\n1<=8
 ·have e:s'=s2:=by rw[<-hs',sRep,if_pos h]
  subst e
  by_cases h2:(stNums n1 s').2=some []
  ·rw[if_pos h2,if_pos ⟨h.1,h.2,h2⟩]
  ·rw[if_neg h2,if_neg (fun h3=>h2 h3.2.2)]
 ·have e:s'=none:=by rw[<-hs',sRep,if_neg h]
  subst e
  rw[if_neg (fun h3=>h ⟨h3.1,h3.2.1⟩),if_neg (by rw[stNums_none];simp)]
theorem rep_nums{w:World}{b:Nat}{g:Option Nat}{s s1 s2:Option (List Int)}{n0 n1:Nat}(hR:reader.Rdr w b g s)(hg:∀x,g=some x->x<w.heap.size)(hb:(left s).length<=140737488351232)(h0:stNum s=(n0,s1))(h1:stNum s1=(n1,s2)):
 Calls Tryz.prog 115 #[.pointer (some ⟨b,0,none⟩),.slice (some ⟨w.heap.size+1+1,0,none⟩) 2 2]
  (((w.alloc (.cells #[.int .i64 0] 3)).alloc (.cells #[.int .i64 0] 3)).alloc (.cells #[.pointer (some ⟨w.heap.size,0,none⟩),.pointer (some ⟨w.heap.size+1,0,none⟩)] 155))
  fun e w'=>e= .returned (.tuple #[])/\(∃g',reader.Rdr w' b g' s2/\(g'=g\/g'=none))/\w'.cell? ⟨w.heap.size,0,none⟩=some (.int .i64 n0)/\w'.cell? ⟨w.heap.size+1,0,none⟩=some (.int .i64 n1)/\Kp [b] w w'/\w.heap.size+1<w'.heap.size:=by
 obtain⟨W1,hW1⟩:∃W1,W1=(w.alloc (.cells #[.int .i64 0] 3)).alloc (.cells #[.int .i64 0] 3):=⟨_,rfl⟩
 have hs1:W1.heap.size=w.heap.size+1+1:=by rw[hW1];simp
 have kW1:Kp [] w W1:=by rw[hW1];exact((Kp.refl [] w).alloc _).alloc _
 have b0:W1.heap[w.heap.size]?=some (.cells #[.int .i64 0] 3):=by rw[hW1];exact heap_alloc2_old w _ _
 have b1:W1.heap[w.heap.size+1]?=some (.cells #[.int .i64 0] 3):=by rw[hW1];exact heap_alloc2_new w _ _
 obtain⟨W,hW⟩:∃W,W=W1.alloc (.cells #[.pointer (some ⟨w.heap.size,0,none⟩),.pointer (some ⟨w.heap.size+1,0,none⟩)] 155):=⟨_,rfl⟩
 have kW:Kp [] W1 W:=by rw[hW];exact(Kp.refl [] W1).alloc _
 have B0:=kW.blk b0 (by simp)
 have B1:=kW.blk b1 (by simp)
 have hlb:=hR.lt
 have hr:Rd W (some ⟨w.heap.size+1+1,0,none⟩) ([some ⟨w.heap.size,0,none⟩,some ⟨w.heap.size+1,0,none⟩].map Value.pointer):=by
  have:=rd_new W1 [.pointer (some ⟨w.heap.size,0,none⟩),.pointer (some ⟨w.heap.size+1,0,none⟩)] 155
  rw[hs1] at this
  rw[hW]
  exact this
 rw[<-hW1,<-hW]
 refine(reader.nums_any b g s (some ⟨w.heap.size+1+1,0,none⟩) 2 2 [some ⟨w.heap.size,0,none⟩,some ⟨w.heap.size+1,0,none⟩] W (hR.kp (kW1.trans kW (by simp)) (by simp) (by simp)) hb rfl (by decide) hr ?_ ?_).mono ?_
 ·intro a ha
  cases ha
  refine⟨by show w.heap.size+1+1≠b;omega,fun p hp q hq=> ?_⟩
  simp only[List.mem_cons,List.not_mem_nil,or_false] at hp
  rcases hp with rfl|rfl<;>cases hq
  ·show w.heap.size≠w.heap.size+1+1;omega
  ·show w.heap.size+1≠w.heap.size+1+1;omega
 ·intro p hp q hq
  simp only[List.mem_cons,List.not_mem_nil,or_false] at hp
  rcases hp with rfl|rfl<;>cases hq
  ·exact⟨by show w.heap.size≠b;omega,fun h=>by have h9:w.heap.size<w.heap.size:=hg _ h;omega,⟨_,bkc B0 0 rfl⟩,blk_free B0 0⟩
  ·exact⟨by show w.heap.size+1≠b;omega,fun h=>by have h9:w.heap.size+1<w.heap.size:=hg _ h;omega,⟨_,bkc B1 0 rfl⟩,blk_free B1 0⟩
 ·rintro e w' ⟨rfl,⟨g',hR',hg'⟩,hos,htp,hout,hsz,hbl⟩
  have e1:(stNums 2 s).1=[(n0:Int),(n1:Int)]:=by simp only[stNums,h0,h1]
  have e2:(stNums 2 s).2=s2:=by simp only[stNums,h0,h1]
  have hlen:[some (⟨w.heap.size,0,none⟩:Addr),some ⟨w.heap.size+1,0,none⟩].length=2:=rfl
  rw[hlen] at hR' hbl
  rw[e1] at hbl
  rw[e2] at hR'
  have hsW:=kW.size
  have kk:=kW1.trans kW (by simp)
  have q0:w'.heap[w.heap.size]?=some (.cells #[.int .i64 n0] 3):=by
   rw[hbl w.heap.size (by omega) (by omega)]
   show((W.setCell ⟨w.heap.size,0,none⟩ (.int .i64 n0)).setCell ⟨w.heap.size+1,0,none⟩ (.int .i64 n1)).heap[w.heap.size]?=_
   rw[heap_setCell_other _ _ _ _ (by show w.heap.size≠w.heap.size+1;omega)]
   exact heap_setCell_same W w.heap.size 0 _ _ (.int .i64 n0) B0
  have q1:w'.heap[w.heap.size+1]?=some (.cells #[.int .i64 n1] 3):=by
   rw[hbl (w.heap.size+1) (by omega) (by omega)]
   show((W.setCell ⟨w.heap.size,0,none⟩ (.int .i64 n0)).setCell ⟨w.heap.size+1,0,none⟩ (.int .i64 n1)).heap[w.heap.size+1]?=_
   exact heap_setCell_same _ (w.heap.size+1) 0 #[.int .i64 0] _ (.int .i64 n1) (by rw[heap_setCell_other _ _ _ _ (by show w.heap.size+1≠w.heap.size;omega)];exact B1)
  refine⟨rfl,⟨g',hR',hg'⟩,bkc q0 0 rfl,bkc q1 0 rfl,⟨hos.trans kk.os,htp.trans kk.tape,hout.trans kk.output,by omega,fun i hi hn=> ?_⟩,by omega⟩
  simp only[List.mem_singleton] at hn
  rw[hbl i (by omega) hn,reader.putAll_far]
  ·exact kk.block i hi (by simp)
  ·intro x hx a ha
   simp only[List.zip_cons_cons,List.zip_nil_right,List.mem_cons,List.not_mem_nil,or_false] at hx
   rcases hx with rfl|rfl<;>cases ha
   ·show w.heap.size≠i;omega
   ·show w.heap.size+1≠i;omega
def DRep(xs:List Int)(w:World)(e:Ending)(w':World):Prop:=
 ∃(er:Int) (l:List Int) (z:Int) (A:Option Addr) (n c:Nat),dRep xs=(er,l,z)/\e= .returned (.tuple #[.agg #[.int .i64 er,.slice A n c],.int .i64 z])/\l.length=n/\Rd w' A (iv .i64 l)/\n<=c/\(A=none->c=0)/\Kp [] w w'
def lenAt(w:World)(X:Nat):Nat:=match w.cell? ⟨X,1,none⟩ with
 |some (.slice _ n _)=>n
 |_=>0
theorem RepAt.lenAt{w:World}{b:Nat}{er:Int}{A:Option Addr}{n c:Nat}(h:RepAt w b er (.slice A n c)):lenAt w b=n:=by
 unfold opk.lenAt
 rw[h.cells.2]
structure DR(w wr:World)(M b X:Nat)(n0 n1:Nat)(v:Value)(l:List Int)(s:Option (List Int)):Prop where
 kp:Kp [] w wr
 res:RepAt wr w.heap.size 0 (.slice none 0 0)
 many:wr.cell? ⟨M,0,none⟩=some (.int .i64 n1)
 x:RepAt wr X n0 v
 own:wr.ownsRow 0 3 1 v l.length (iv .i64 l)
 lo:∀y,v.ownBlock=some y->X<y
 rdr:∃g,reader.Rdr wr b g s/\∀y,g=some y->w.heap.size<y/\y<X
 ord:w.heap.size<b/\w.heap.size<M/\b<X/\M<X/\M≠b
theorem DR.skip{w wr w1:World}{M b X n0 n1:Nat}{v:Value}{l:List Int}{s:Option (List Int)}(h:DR w wr M b X n0 n1 v l s)(k:Kp [] wr w1):DR w w1 M b X n0 n1 v l s:=by
 obtain⟨g,hr,hg⟩:=h.rdr
 exact⟨h.kp.trans k (by simp),h.res.kp k (by simp),k.cell h.many (by simp),h.x.kp k (by simp),k.own h.own (by simp),h.lo,⟨g,hr.kp k (by simp) (by simp),hg⟩,h.ord⟩
theorem DR.took{w wr w1:World}{M b X n0 n1:Nat}{v:Value}{l:List Int}{s s':Option (List Int)}{g g':Option Nat}(h:DR w wr M b X n0 n1 v l s)(hg:∀y,g=some y->w.heap.size<y/\y<X)(R:reader.Rdr w1 b g' s')(G:g'=g\/g'=none)(k:Kp [b] wr w1):DR w w1 M b X n0 n1 v l s':=by
 obtain⟨o1,o2,o3,o4,o5⟩:=h.ord
 have hb:∀x∈[b],x∈([]:List Nat)\/w.heap.size<=x:=by intro x hx;simp at hx;right;omega
 exact⟨h.kp.trans k hb,h.res.kp k (by simp;omega),k.cell h.many (by simpa using o5),h.x.kp k (by simp;omega),k.own h.own (fun y hy=>by have:=h.lo y hy;simp;omega),h.lo,⟨g',R,fun y hy=>by rcases G with e|e;exact hg y (by rw[<-e];exact hy);rw[e] at hy;cases hy⟩,h.ord⟩
theorem DR.put{w wr w2:World}{M b X n0 n1:Nat}{v v':Value}{l:List Int}{s:Option (List Int)}{y:Int}{n:Nat}(h:DR w wr M b X n0 n1 v l s)(hl:l.length=n)(o:w2.ownsRow 0 3 1 v' (n+1) (iv .i64 l++[.int .i64 y]))(k:Kp v.ownBlock.toList wr w2)(a:At wr.heap.size v.ownBlock v'.ownBlock):
 w2.cell? ⟨X,1,none⟩=some v/\w2.frozen? ⟨X,1,none⟩=false/\DR w (w2.setCell ⟨X,1,none⟩ v') M b X n0 n1 v' (l++[y]) s:=by
 subst hl
 obtain⟨o1,o2,o3,o4,o5⟩:=h.ord
 obtain⟨g,hr,hg⟩:=h.rdr
 have hXlt:=lt_of_block h.x
 have hX:X∉v.ownBlock.toList:=fun hm=>by have:=h.lo X (by simpa using hm);omega
 have hx2:=h.x.kp k hX
 have hS:∀i,i<X->i∉v.ownBlock.toList:=fun i hi hm=>by have:=h.lo i (by simpa using hm);omega
 have ks:Kp [X] w2 (w2.setCell ⟨X,1,none⟩ v'):=(Kp.refl _ _).setCell (.inl (by simp)) _
 have lo':∀z,v'.ownBlock=some z->X<z:=by
  intro z hz
  rcases a with e|⟨j,e,hj⟩
  ·exact h.lo z (by rw[<-e];exact hz)
  ·rw[e] at hz;cases hz;omega
 refine⟨hx2.cells.2,hx2.free 1,⟨(h.kp.row k (fun z hz=> .inr (by have:=h.lo z hz;omega))).trans ks (by intro z hz;simp at hz;omega),(h.res.kp k (hS _ (by omega))).kp ks (by simp;omega),ks.cell (k.cell h.many (hS _ o4)) (by simp;omega),heap_setCell_same w2 X 1 _ _ v' hx2, ?_,lo',⟨g,(hr.kp k (hS _ o3) (fun z hz=>hS z (hg z hz).2)).kp ks (by simp;omega) (fun z hz=>by have:=hg z hz;simp;omega),hg⟩,h.ord⟩⟩
 have o':=ks.own o (fun z hz=>by have:=lo' z hz;simp;omega)
 rw[List.length_append,iv_app]
 exact o'
end Go.Proofs.YtdiljpdohmeceaaGreat.opk
namespace Go.Proofs.YtdiljpdohmeceaaGreat.H
open Go.RowKit
structure Acc(w wr:World)(v:Value)(T:Nat)(X:List Int):Prop where
 own:wr.ownsRow 0 5 1 v T (iv .u8 X)
 lo:∀g,v.ownBlock=some g->w.heap.size<=g
 kp:Kp [] w wr
theorem Acc.len{w wr:World}{v:Value}{T:Nat}{X:List Int}(h:Acc w wr v T X):X.length=T:=by have:=h.own.1;rw[iv_len] at this;omega
theorem Acc.keep{w wr w1:World}{v:Value}{T:Nat}{X:List Int}(h:Acc w wr v T X)(k:Kp [] wr w1):Acc w w1 v T X:=⟨k.own h.own (by simp),h.lo,h.kp.trans k (by simp)⟩
theorem Acc.more{w wr w1:World}{v v1:Value}{T m T':Nat}{X y:List Int}(h:Acc w wr v T X)(o:w1.ownsRow 0 5 1 v1 (T+m) (iv .u8 X++iv .u8 y))(k:Kp v.ownBlock.toList wr w1)(a:At wr.heap.size v.ownBlock v1.ownBlock)(hT:T'=T+m):Acc w w1 v1 T' (X++y):=
 ⟨by rw[iv_app,hT];exact o,a.ge h.kp.size h.lo,h.kp.row k (fun x hx=> .inr (h.lo x hx))⟩
theorem Acc.empty{w w2:World}(k:Kp [] w w2):Acc w (w2.alloc (.cells #[] 5)) (.slice (some ⟨w2.heap.size,0,none⟩) 0 0) 0 []:=
 ⟨own_new w2 [] _ (Nat.zero_le _),by have:=k.size;intro g hg;simp[Value.ownBlock] at hg;omega,k.alloc _⟩
end Go.Proofs.YtdiljpdohmeceaaGreat.H
namespace Go.Proofs.YtdiljpdohmeceaaGreat.ref13
open Go.RowKit H O opk haystacklaw13
theorem key_any(s:ByteArray)(w:World):Calls Tryz.prog 79 #[.string s] w fun e w'=>e= .returned (.bool (decide (1<=s.size/\s.size<=64)))/\w'=w:=by
 obtain⟨n,hn⟩:∃n,s.size=n:=⟨_,rfl⟩
 by_cases h1:1<=n
 ·have h1':(1:Int)<=(n:Int):=by omega
  by_cases h2:n<=64
  ·have h2':(n:Int)<=64:=by omega
   go_enter Tryz.func79,Tryz.ntmps79
   go_wp2
   go_ret
   exact⟨by rw[decide_eq_true (by omega)];rfl,rfl⟩
  ·have h2':¬(n:Int)<=64:=by omega
   go_enter Tryz.func79,Tryz.ntmps79
   go_wp2
   go_ret
   exact⟨rfl,rfl⟩
 ·have h1':¬(1:Int)<=(n:Int):=by omega
  go_enter Tryz.func79,Tryz.ntmps79
  go_wp2
  go_ret
  exact⟨rfl,rfl⟩
theorem acc_off{w w':World}{o:Obj}{v:Value}{T:Nat}{X:List Int}(h:Acc (w.alloc o) w' v T X):v.ownBlock≠some w.heap.size:=by
 intro hb
 have:=h.lo _ hb
 rw[World.size_alloc] at this
 omega
theorem enc_fin{k cl sq:Int}{key:ByteArray}{text:List Int}{w w0 w':World}{v:Value}{T:Nat}(he:opErr k cl sq key.size text.length=0)(h:Acc w0 w' v T (opBytes k cl sq key text))(k0:Kp [] w w0):
 EncPost k cl sq key text w (.returned (.tuple #[v,.int .i64 0])) w':=by
 refine⟨v,by rw[he], ?_,k0.trans h.kp (by simp)⟩
 rw[he,if_pos rfl]
 exact⟨by rw[h.len];exact h.own,fun g hg=>Nat.le_trans k0.size (h.lo g hg)⟩
theorem within1_iff{x:Int}:within1 x=true↔¬x<0/\¬1099511627776<x:=by
 unfold within1
 simp only[Bool.and_eq_true,decide_eq_true_eq]
 omega
theorem encode_no(k cl sq:Int)(key:ByteArray)(m:Nat)(hkm:key.size=m)(A:Option Addr)(n c:Nat)(text:List Int)(w:World)(hn:text.length=n)(hm:n<=4611686018427387904)(he:opErr k cl sq m n≠0):
 Calls Tryz.prog 39 #[.agg #[.int .i64 k,.int .i64 cl,.int .i64 sq,.string key,.slice A n c]] w (EncPost k cl sq key text w):=by
 have HIX:As (∀b,decide (1<=m/\m<=64)=b->∀w,Calls Tryz.prog 79 #[.string key] w fun e w'=>e= .returned (.bool b)/\w'=w):=⟨fun b hb w=>by
  have h:=key_any key w
  rwa[hkm,hb] at h⟩
 have HK1:=As.mk ((Kp.refl [] w).alloc (.cells #[.int .i64 k,.int .i64 cl,.int .i64 sq,.string key,.slice A n c] 46))
 by_cases h1:k=1\/k=2
 ·by_cases h5:opErr k cl sq m n=5
  ·have HE:As (5=opErr k cl sq key.size text.length):=⟨by rw[hkm,hn];exact h5.symm⟩
   have h6:k=1/\(¬cl<0/\¬1099511627776<cl)/\(¬sq<0/\¬1099511627776<sq)/\(1<=m/\m<=64)/\4096<n:=by
    unfold opErr at h5
    split at h5
    ·omega
    ·rename_i h9
     split at h5
     ·simp only[not_or,Bool.not_eq_false,Bool.and_eq_true,within1_iff,Classical.not_not] at h9
      obtain⟨h91,⟨h92,h93⟩,h94,h95⟩:=h9
      refine⟨by omega,h92,h93,h94,by assumption⟩
     ·omega
   obtain⟨rfl,⟨a1,a2⟩,⟨a3,a4⟩,a5,a6⟩:=h6
   have HI:=As.mk (HIX.out true (decide_eq_true a5))
   clear he h5 HIX hn hkm h1 a5
   go_enter Tryz.func39,Tryz.ntmps39
   go_wp2_with (go_at_call 79;refine(HI.out _).mono ?_;rintro e w2 ⟨rfl,rfl⟩)
   go_ret2
   exact enc_none HE.out (by decide) HK1.out
  ·have h11:opErr k cl sq m n=1:=by
    unfold opErr at he h5⊢
    split
    ·rfl
    ·rename_i h9
     rw[if_neg h9] at he h5
     split at he
     ·rename_i h10
      rw[if_pos h10] at h5
      exact absurd rfl h5
     ·exact absurd rfl he
   have HE:As (1=opErr k cl sq key.size text.length):=⟨by rw[hkm,hn];exact h11.symm⟩
   have D:cl<0\/(¬cl<0/\1099511627776<cl)\/((¬cl<0/\¬1099511627776<cl)/\sq<0)\/((¬cl<0/\¬1099511627776<cl)/\(¬sq<0/\1099511627776<sq))\/
    ((¬cl<0/\¬1099511627776<cl)/\(¬sq<0/\¬1099511627776<sq)/\decide (1<=m/\m<=64)=false)\/((¬cl<0/\¬1099511627776<cl)/\(¬sq<0/\¬1099511627776<sq)/\decide (1<=m/\m<=64)=true/\k=2/\0<n):=by
    unfold opErr at h11
    split at h11
    ·rename_i h9
     by_cases b1:cl<0
     ·exact .inl b1
     ·by_cases b2:1099511627776<cl
      ·exact .inr (.inl ⟨b1,b2⟩)
      ·by_cases b3:sq<0
       ·exact .inr (.inr (.inl ⟨⟨b1,b2⟩,b3⟩))
       ·by_cases b4:1099511627776<sq
        ·exact .inr (.inr (.inr (.inl ⟨⟨b1,b2⟩,b3,b4⟩)))
        ·have hw:(within1 cl&&within1 sq)=true:=by rw[Bool.and_eq_true,within1_iff,within1_iff];exact⟨⟨b1,b2⟩,b3,b4⟩
         by_cases b5:1<=m/\m<=64
         ·refine .inr (.inr (.inr (.inr (.inr ⟨⟨b1,b2⟩,⟨b3,b4⟩,decide_eq_true b5, ?_⟩))))
          rw[hw] at h9
          simp only[Bool.true_eq_false,false_or] at h9
          omega
         ·exact .inr (.inr (.inr (.inr (.inl ⟨⟨b1,b2⟩,⟨b3,b4⟩,decide_eq_false b5⟩))))
    ·split at h11<;>omega
   clear he h5 h11 hn hkm
   rcases D with a1|⟨a1,a2⟩|⟨⟨a1,a2⟩,a3⟩|⟨⟨a1,a2⟩,a3,a4⟩|⟨⟨a1,a2⟩,⟨a3,a4⟩,a5⟩|⟨⟨a1,a2⟩,⟨a3,a4⟩,a5,a6,a7⟩
   case inr.inr.inr.inr.inr=>
    have HI:=As.mk (HIX.out true a5)
    clear HIX a5 h1
    subst a6
    go_enter Tryz.func39,Tryz.ntmps39
    go_wp2_with (go_at_call 79;refine(HI.out _).mono ?_;rintro e w2 ⟨rfl,rfl⟩)
    go_ret2
    exact enc_none HE.out (by decide) HK1.out
   case inr.inr.inr.inr.inl=>
    have HI:=As.mk (HIX.out false a5)
    clear HIX a5
    rcases h1 with rfl|rfl
    all_goals
     go_enter Tryz.func39,Tryz.ntmps39
     go_wp2_with (go_at_call 79;refine(HI.out _).mono ?_;rintro e w2 ⟨rfl,rfl⟩)
     go_ret2
     exact enc_none HE.out (by decide) HK1.out
   all_goals
    clear HIX
    rcases h1 with rfl|rfl
    all_goals
     go_enter Tryz.func39,Tryz.ntmps39
     go_wp2
     go_ret2
     exact enc_none HE.out (by decide) HK1.out
 ·have HE:As (1=opErr k cl sq key.size text.length):=⟨by rw[opErr,if_pos (.inl (by omega))]⟩
  have hk1:(k !=1)=true:=by simp;omega
  have hk2:(k !=2)=true:=by simp;omega
  clear h1 he HIX hn hkm
  go_enter Tryz.func39,Tryz.ntmps39
  go_wp2
  go_ret2
  exact enc_none HE.out (by decide) HK1.out
theorem encode_ok(k cl sq:Int)(key:ByteArray)(m:Nat)(hkm:key.size=m)(A:Option Addr)(n c:Nat)(text:List Int)(w:World)(hn:text.length=n)(hr:Rd w A (iv .u8 text))(hnil:A=none->c=0)
 (hk:k=1\/(k=2/\¬0<n)) (hb2:(within1 cl&&within1 sq)=true) (hb3:1<=m/\m<=64) (hb5:n<=4096) (he:opErr k cl sq m n=0):
 Calls Tryz.prog 39 #[.agg #[.int .i64 k,.int .i64 cl,.int .i64 sq,.string key,.slice A n c]] w (EncPost k cl sq key text w):=by
 rw[Bool.and_eq_true,within1_iff,within1_iff] at hb2
 obtain⟨⟨a1,a2⟩,a3,a4⟩:=hb2
 have HI:As (∀w,Calls Tryz.prog 79 #[.string key] w fun e w'=>e= .returned (.bool true)/\w'=w):=⟨fun w=>by
  have h:=key_any key w
  rwa[hkm,decide_eq_true hb3] at h⟩
 obtain⟨X1,hX1⟩:∃X,X=nums [k,cl,sq]:=⟨_,rfl⟩
 obtain⟨T1,hT1⟩:∃T,X1.length=T:=⟨_,rfl⟩
 obtain⟨Y1,hY1⟩:∃Y,Y=row (kb key):=⟨_,rfl⟩
 obtain⟨R1,hR1⟩:∃R,Y1.length=R:=⟨_,rfl⟩
 obtain⟨T2,hT2⟩:∃T,T=T1+R1:=⟨_,rfl⟩
 obtain⟨Y2,hY2⟩:∃Y,Y=row text:=⟨_,rfl⟩
 obtain⟨R2,hR2⟩:∃R,Y2.length=R:=⟨_,rfl⟩
 obtain⟨T3,hT3⟩:∃T,T=T2+R2:=⟨_,rfl⟩
 have hl1:T1<=1000000:=by rw[<-hT1,hX1];exact nums3_len _ _ _
 have hl2:R1<=1000:=by have:=row_len (kb key);rw[<-hR1,hY1];rw[kb_len] at this;omega
 have hl3:R2<=5000:=by have:=row_len text;rw[<-hR2,hY2];omega
 have HFIN:As (X1++Y1++Y2=opBytes k cl sq key text):=⟨by rw[hX1,hY1,hY2,opBytes_eq];simp[nums_cons,nums_nil]⟩
 have HNU:As (∀wX,Kp [] (w.alloc (.cells #[.int .i64 k,.int .i64 cl,.int .i64 sq,.string key,.slice A n c] 46)) wX->Calls Tryz.prog 41 #[.slice (some ⟨wX.heap.size,0,none⟩) 3 3] (wX.alloc (.cells #[.int .i64 k,.int .i64 cl,.int .i64 sq] 3)) fun e w'=>∃A3 c3,e= .returned (.slice A3 T1 c3)/\Acc (w.alloc (.cells #[.int .i64 k,.int .i64 cl,.int .i64 sq,.string key,.slice A n c] 46)) w' (.slice A3 T1 c3) T1 X1/\Kp [] wX w'):=⟨fun wX kX=>by
  refine(ref.nums_any (some ⟨wX.heap.size,0,none⟩) 3 3 [k,cl,sq] _ rfl (rd_new wX (iv .i64 [k,cl,sq]) 3) (by decide)).mono ?_
  rintro e w' ⟨v,rfl,o,kk⟩
  rw[<-hX1] at o
  have o1:=o.1
  rw[hT1] at o1
  obtain⟨A3,c3,rfl,_⟩:=own_rd o1
  have hkk:Kp [] wX w':=((Kp.refl [] wX).alloc _).trans kk (by simp)
  exact⟨A3,c3,rfl,⟨o1,fun g hg=>by have h1:=o.2 g hg;have h2:=kX.size;rw[World.size_alloc] at h1 h2⊢;omega,kX.trans hkk (by simp)⟩,hkk⟩⟩
 have HB1:As (∀(w3:World),Calls Tryz.prog 43 #[.slice (some ⟨w3.heap.size,0,none⟩) m (grownCap w3 m 0 5)] (Lib.bytesWorld w3 5 key) fun e w'=>∃A5 c5,e= .returned (.slice A5 R1 c5)/\Rd w' A5 (iv .u8 Y1)/\(A5=none->c5=0)/\Kp [] w3 w'):=⟨fun w3=>by
  refine(ref.bytes_any (some ⟨w3.heap.size,0,none⟩) m (grownCap w3 m 0 5) (kb key) _ (by rw[kb_len,hkm]) (rd_bytes w3 5 key) (by simp) (by omega)).mono ?_
  rintro e w' ⟨v,rfl,o,kk⟩
  rw[<-hY1] at o
  obtain⟨A5,c5,rfl,_,_,r5,n5⟩:=own_rd o.1
  rw[hR1]
  exact⟨A5,c5,rfl,r5,n5,(kp_bytes (Kp.refl [] w3) 5 key).trans kk (by simp)⟩⟩
 have HB2:As (∀(wX:World),Kp [] w wX->Calls Tryz.prog 43 #[.slice A n c] wX fun e w'=>∃A5 c5,e= .returned (.slice A5 R2 c5)/\Rd w' A5 (iv .u8 Y2)/\(A5=none->c5=0)/\Kp [] wX w'):=⟨fun wX kX=>by
  refine(ref.bytes_any A n c text wX hn (kX.rd_new hr (by simp)) hnil (by omega)).mono ?_
  rintro e w' ⟨v,rfl,o,kk⟩
  rw[<-hY2] at o
  obtain⟨A5,c5,rfl,_,_,r5,n5⟩:=own_rd o.1
  rw[hR2]
  exact⟨A5,c5,rfl,r5,n5,kk⟩⟩
 have HCV:As (∀w,(convert 9 24 (.string key)).run Tryz.prog w= .ok (.slice (some ⟨w.heap.size,0,none⟩) m (grownCap w m 0 5)) (Lib.bytesWorld w 5 key)):=⟨fun w=>by
  rw[<-hkm]
  exact Lib.run_convert_string_bytes w 9 24 5 key Tryz.underlying9 Tryz.underlying24 Tryz.underlying5⟩
 have HE:As (opErr k cl sq key.size text.length=0):=⟨by rw[hkm,hn];exact he⟩
 have HR1:=As.mk hR1
 have HR2:=As.mk hR2
 have HT2:=As.mk hT2
 have HT3:=As.mk hT3
 have HBX:=As.mk (OpAt.new w k cl sq key A n c)
 have HK0:=As.mk ((Kp.refl [] w).alloc (.cells #[.int .i64 k,.int .i64 cl,.int .i64 sq,.string key,.slice A n c] 46))
 have hnu:=HNU.out _ (Kp.refl [] _)
 rw[World.size_alloc] at hnu
 have HNU1:=As.mk hnu
 have hT29:T2<=1001000:=by omega
 clear hr hn hnil he hkm hb3 hX1 hT1 hY1 hR1 hT2 hY2 hR2 hT3 HNU hnu
 rcases hk with rfl|⟨rfl,hn0⟩
 all_goals
  go_enter Tryz.func39,Tryz.ntmps39
  go_wp2_with (first
   |(go_at_call 79;refine(HI.out _).mono ?_;rintro e w2 ⟨rfl,rfl⟩)
   |(go_at_call 41;refine HNU1.out.mono ?_;rintro e w3 ⟨A3,c3,rfl,a3,k3⟩;have HA3:=As.mk a3;have HO3:=As.mk (HBX.out.kp k3 (by simp));obtain⟨d0,d1,d2,d3,d4⟩:=HO3.out.cells;have hcv3:=HCV.out w3;have HB11:=As.mk (HB1.out w3);clear a3 k3 HNU1 HB1)
   |(go_at_call 43;refine HB22.out.mono ?_;rintro e w7 ⟨A7,c7,rfl,r7,n7,k7⟩;have HR7:=As.mk r7;have HN7:=As.mk n7;have HA7:=As.mk (HA6.out.keep k7);clear r7 n7 k7 HB22 HA6)
   |(go_at_call 43;refine HB11.out.mono ?_;rintro e w5 ⟨A5,c5,rfl,r5,n5,k5⟩;have HR5:=As.mk r5;have HN5:=As.mk n5;have HA5:=As.mk (HA3.out.keep k5);have HO5:=As.mk (HO3.out.kp k5 (by simp));clear r5 n5 k5 HB11 d0 d1 d2 d3 d4 HA3 HO3)
   |(at_builtin;refine clone.app8 rfl (.tmp 68) (.tmp 71) rfl (.slice A6 T2 c6) T2 (iv .u8 (X1++Y1)) rfl HA7.out.own A7 R2 c7 (iv .u8 Y2) rfl (by rw[iv_len,HR2.out]) HR7.out HN7.out (iv_one _ _) (by omega) ?_;intro v8 w8 o8 k8 a8;have h8:=HA7.out.more o8 k8 a8 HT3.out;rw[HFIN.out] at h8;obtain⟨A8,c8,rfl,_,_,_,_⟩:=own_rd h8.own;have HA8:=As.mk h8;clear o8 k8 a8 h8)
   |(at_builtin;refine clone.app8 rfl (.tmp 62) (.tmp 66) rfl (.slice A3 T1 c3) T1 (iv .u8 X1) rfl HA5.out.own A5 R1 c5 (iv .u8 Y1) rfl (by rw[iv_len,HR1.out]) HR5.out HN5.out (iv_one _ _) (by omega) ?_;intro v6 w6 o6 k6 a6;have h6:=HA5.out.more o6 k6 a6 HT2.out;obtain⟨A6,c6,rfl,_,_,_,_⟩:=own_rd h6.own;have HA6:=As.mk h6;have ho6:=HO5.out.kp k6 (fun hm=>acc_off HA5.out (by simpa using hm));obtain⟨-,-,-,-,d4⟩:=ho6.cells;have HB22:=As.mk (HB2.out w6 (HK0.out.trans h6.kp (by simp)));clear o6 k6 a6 h6 ho6 HB2 HA5))
  go_ret2
  exact enc_fin HE.out HA8.out HK0.out
theorem encode_any(k cl sq:Int)(key:ByteArray)(A:Option Addr)(n c:Nat)(text:List Int)(w:World)(hn:text.length=n)(hr:Rd w A (iv .u8 text))(hnil:A=none->c=0)(hm:n<=4611686018427387904):
 Calls Tryz.prog 39 #[.agg #[.int .i64 k,.int .i64 cl,.int .i64 sq,.string key,.slice A n c]] w (EncPost k cl sq key text w):=by
 by_cases h:opErr k cl sq key.size n=0
 ·obtain⟨h1,h2,h3,h4⟩:=opErr_ne.1 h
  exact encode_ok k cl sq key _ rfl A n c text w hn hr hnil h1 h2 h3 h4 h
 ·exact encode_no k cl sq key _ rfl A n c text w hn hm h
end Go.Proofs.YtdiljpdohmeceaaGreat.ref13
namespace Go.Proofs.YtdiljpdohmeceaaGreat.haystacklaw13
open Go.RowKit H O opk
theorem str_kb(s:ByteArray):strOfNums (kb s)=s:=kb_inj (kb_str (kb_wf s))
end Go.Proofs.YtdiljpdohmeceaaGreat.haystacklaw13
