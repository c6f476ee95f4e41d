/- Words and walks that this claim rests on: proved lemmas alone. -/
import Derived.Test.YtdiljpdohmeceaaGreatZ2
import Derived.Deep.SlicePairs
import Derived.Deep.Cut
set_option maxHeartbeats 16000000
set_option maxRecDepth 100000
namespace Go.Proofs.YtdiljpdohmeceaaGreat.opk
open Go.RowKit H O haystacklaw13
def mv(ms:List (ByteArray×Int)):List Value:=ms.flatMap fun m=>[.string m.1,.int .i64 m.2]
theorem mv_nil:mv []=[]:=rfl
theorem mv_cons(m:ByteArray×Int)(ms:List (ByteArray×Int)):mv (m::ms)= .string m.1:: .int .i64 m.2::mv ms:=rfl
theorem mv_app(a b:List (ByteArray×Int)):mv (a++b)=mv a++mv b:=by simp[mv]
theorem mv_len(ms:List (ByteArray×Int)):(mv ms).length=ms.length*2:=by
 induction ms with
 |nil=>rfl
 |cons m ms ih=>rw[mv_cons,List.length_cons,List.length_cons,ih,List.length_cons];omega
theorem mv_get:∀(ms:List (ByteArray×Int)) (i:Nat) (h:i<ms.length),(mv ms)[i*2]?=some (.string ms[i].1)/\(mv ms)[i*2+1]?=some (.int .i64 ms[i].2)
 |m::ms,0,_=>⟨rfl,rfl⟩
 |m::ms,i+1,h=>by
  have ih:=mv_get ms i (by simpa using h)
  rw[mv_cons,show(i+1)*2=i*2+2 by omega]
  exact⟨ih.1,ih.2⟩
theorem mv_one(ms:List (ByteArray×Int)):∀u∈mv ms,u.oneCell'=true:=by
 intro u hu
 obtain⟨m,_,h⟩:=List.mem_flatMap.1 hu
 simp only[List.mem_cons,List.not_mem_nil,or_false] at h
 rcases h with rfl|rfl<;>rfl
theorem mv_at{w:World}{A:Option Addr}{ms:List (ByteArray×Int)}(h:Rd w A (mv ms))(i:Nat)(hi:i<ms.length):∃b o,A=some ⟨b,o,none⟩/\w.cell? ⟨b,o+i*2,none⟩=some (.string ms[i].1)/\w.cell? ⟨b,o+i*2+1,none⟩=some (.int .i64 ms[i].2):=by
 obtain⟨g0,g1⟩:=mv_get ms i hi
 obtain⟨a,ha,c0⟩:=h _ _ g0
 obtain⟨a',ha',c1⟩:=h _ _ g1
 rw[ha] at ha'
 cases ha'
 obtain⟨z,hz,cz⟩:=h 0 (.string ms[0].1) (by simpa using (mv_get ms 0 (by omega)).1)
 rw[ha] at hz
 cases hz
 obtain⟨b,o,s⟩:=a
 obtain rfl:s=none:=by simpa [Addr.add] using World.cell?_spot cz
 rw[Go.WideShapes.add_plain] at c0 c1
 exact⟨b,o,ha,c0,by rw[Nat.add_assoc];exact c1⟩
def mRow(m:ByteArray×Int):List Int:=row (kb m.1)++num m.2
def mRows(ms:List (ByteArray×Int)):List Int:=ms.flatMap mRow
def mBytes(ms:List (ByteArray×Int)):List Int:=num (ms.length:Int)++mRows ms
theorem mRows_cons(m:ByteArray×Int)(ms:List (ByteArray×Int)):mRows (m::ms)=mRow m++mRows ms:=rfl
theorem mRows_step(ms:List (ByteArray×Int))(k:Nat)(h:k<ms.length):mRows (ms.take (k+1))=mRows (ms.take k)++(row (kb ms[k].1)++num ms[k].2):=by
 rw[take_succ' ms k h,mRows,List.flatMap_append,List.flatMap_singleton]
 rfl
def mSize(ms:List (ByteArray×Int)):Nat:=(ms.map fun m=>5+m.1.size).sum
theorem mSize_step(ms:List (ByteArray×Int))(k:Nat)(h:k<ms.length):mSize (ms.take (k+1))=mSize (ms.take k)+5+ms[k].1.size:=by
 rw[take_succ' ms k h,mSize,List.map_append,List.sum_append,List.map_singleton,List.sum_singleton,<-Nat.add_assoc]
 rfl
theorem mSize_le(ms:List (ByteArray×Int))(k:Nat):mSize (ms.take k)<=mSize ms:=by
 have e:ms=ms.take k++ms.drop k:=(List.take_append_drop k ms).symm
 conv=>rhs;rw[e]
 simp only[mSize,List.map_append,List.sum_append]
 omega
theorem mSize_len(ms:List (ByteArray×Int)):5*ms.length<=mSize ms:=by
 induction ms with
 |nil=>simp
 |cons m ms ih=>simp only[mSize,List.map_cons,List.sum_cons,List.length_cons] at ih⊢;omega
theorem mRows_len(ms:List (ByteArray×Int)):(mRows ms).length<=4*mSize ms:=by
 induction ms with
 |nil=>simp[mRows]
 |cons m ms ih=>
  have h1:=row_len (kb m.1)
  have h2:=num_len m.2
  rw[kb_len] at h1
  simp only[mRows_cons,mRow,mSize,List.map_cons,List.sum_cons,List.length_append] at ih⊢
  omega
theorem mRows_wf(ms:List (ByteArray×Int)):Wf (mRows ms):=by
 intro x hx
 obtain⟨m,_,h⟩:=List.mem_flatMap.1 hx
 rcases List.mem_append.1 h with h|h
 ·exact row_u8 _ (kb_wf _) x h
 ·exact num_u8 _ x h
theorem mBytes_wf(ms:List (ByteArray×Int)):Wf (mBytes ms):=fun x hx=>by
 rcases List.mem_append.1 hx with h|h
 ·exact num_u8 _ x h
 ·exact mRows_wf ms x h
def mStep(s:Option (List Int)):(ByteArray×Int)×Option (List Int):=
 ((strOfNums (stBytes s).1,((stNum (stBytes s).2).1:Int)),if 1<=(stBytes s).1.length/\(stBytes s).1.length<=64 then(stNum (stBytes s).2).2 else none)
def mIter:Nat->Option (List Int)->List (ByteArray×Int)×Option (List Int)
 |0,s=>([],s)
 |k+1,s=>((mIter k s).1++[(mStep (mIter k s).2).1],(mStep (mIter k s).2).2)
theorem mIter_len(k:Nat)(s:Option (List Int)):(mIter k s).1.length=k:=by
 induction k with
 |zero=>rfl
 |succ k ih=>simp[mIter,ih]
theorem mStep_none:(mStep none).2=none:=rfl
theorem mIter_stay{s:Option (List Int)}{k j:Nat}(h:(mIter k s).2=none)(hj:k<=j):(mIter j s).2=none:=by
 induction j with
 |zero=>obtain rfl:k=0:=by omega
        exact h
 |succ j ih=>
  by_cases e:k=j+1
  ·rw[<-e];exact h
  ·show(mStep (mIter j s).2).2=none
   rw[ih (by omega)]
   exact mStep_none
def dMs(xs:List Int):List (ByteArray×Int)×Int:=
 match stNum (some xs) with
 |(n,s1)=>if(mIter n s1).2=some [] then((mIter n s1).1,0) else([],3)
theorem dMs_eq{xs:List Int}{n:Nat}{s1:Option (List Int)}(h:stNum (some xs)=(n,s1)):dMs xs=if(mIter n s1).2=some [] then((mIter n s1).1,0) else([],3):=by
 simp only[dMs,h]
theorem stNum_short{s:Option (List Int)}{l:List Int}(h:(stNum s).2=some l):l.length<(left s).length:=by
 cases s with
 |none=>simp[stNum] at h
 |some r=>
  cases hd:dec r with
  |none=>simp[stNum,hd] at h
  |some x=>
   obtain⟨v,q⟩:=x
   obtain⟨p,e,hp⟩:=dec_suffix hd
   simp only[stNum,hd,Option.some.injEq] at h
   subst h
   simp only[left,Option.getD_some]
   rw[e,List.length_append]
   have:0<p.length:=List.length_pos_iff.2 hp
   omega
theorem mStep_short{s:Option (List Int)}{l:List Int}(h:(mStep s).2=some l):l.length<(left s).length:=by
 unfold mStep at h
 simp only at h
 split at h
 ·have h1:=stNum_short h
  have h2:=stBytes_left (s:=s) (Nat.le_refl _)
  omega
 ·cases h
theorem mIter_count{s:Option (List Int)}{k:Nat}{l:List Int}(h:(mIter k s).2=some l):k+l.length<=(left s).length:=by
 induction k generalizing l with
 |zero=>have:s=some l:=h
        subst this
        simp[left]
 |succ k ih=>
  have h':(mStep (mIter k s).2).2=some l:=h
  have h1:=mStep_short h'
  cases e:(mIter k s).2 with
  |none=>rw[e] at h';simp[mStep_none] at h'
  |some r=>
   have:=ih e
   rw[e] at h1
   simp only[left,Option.getD_some] at h1
   omega
theorem mStep_row{m:ByteArray×Int}{r:List Int}(hk:1<=m.1.size/\m.1.size<=64)(hm:0<=m.2/\m.2<=4611686018427387904):mStep (some (mRow m++r))=(m,some r):=by
 have h1:stBytes (some (mRow m++r))=(kb m.1,some (num m.2++r)):=by
  rw[mRow,List.append_assoc]
  exact stBytes_row _ _ (by rw[kb_len];omega)
 unfold mStep
 simp only[h1,stNum_num,kb_len,if_pos hk,cl_of hm.1 hm.2,str_kb]
end Go.Proofs.YtdiljpdohmeceaaGreat.opk
namespace Go.Proofs.YtdiljpdohmeceaaGreat.H
open Go.ChangeShapes Go.WideShapes Go.ChangeAt Go.RowKit Go.Deep opk
section
variable {H:Type} {enc:TypeId×Value->H} {W:World}
def strOf:Value->ByteArray
 | .string s=>s
 |_=>⟨#[]⟩
def intOf1:Value->Int
 | .int _ n=>n
 |_=>0
end
end Go.Proofs.YtdiljpdohmeceaaGreat.H
namespace Go.Proofs.YtdiljpdohmeceaaGreat.joins
open Go.RowKit H O
def Jd(xs:List Int)(lo:Nat)(w':World)(v:Value):Prop:=
 Own 5 .u8 w' lo v xs\/∃g,v= .slice (some ⟨g,0,none⟩) xs.length xs.length/\lo<=g/\g<w'.heap.size/\Rd w' (some ⟨g,0,none⟩) (iv .u8 xs)
theorem Jd.lower{xs:List Int}{lo lo':Nat}{w:World}{v:Value}(h:Jd xs lo w v)(hl:lo'<=lo):Jd xs lo' w v:=by
 rcases h with h|⟨g,h1,h2,h3,h4⟩
 ·exact .inl (h.lower hl)
 ·exact .inr ⟨g,h1,by omega,h3,h4⟩
end Go.Proofs.YtdiljpdohmeceaaGreat.joins
namespace Go.Proofs.YtdiljpdohmeceaaGreat.sum
open Go.RowKit H O
theorem sum_any(A:Option Addr)(n c:Nat)(l:List (List Int))(S:List Nat)(w:World)(hn:l.length=n)(h0:Rs S w A l)(hm:n<=140737488351232)(hm2:∀x∈l,x.length<=140737488351232)(hw:∀x∈l,∀y∈x,0<=y/\y<256):
 Calls Tryz.prog 136 #[.slice A n c] w fun e w'=>e= .returned (.int .u32 (crc l.flatten))/\w'=w:=by
 subst hn
 have H0:=As.mk h0
 have HM:=As.mk hm2
 have HW:=As.mk hw
 clear h0 hm2 hw
 go_enter Tryz.func136,Tryz.ntmps136
 go_wp2
 go_loop [3,10] (fun v i=>∃(k:Nat) (u:BitVec 32),i= .int .i64 (k:Int)/\v= .int .u32 (u.toNat:Int)/\k<=l.length/\As (u=crcF 4294967295#32 (l.take k).flatten)) (fun _ i=>l.length-(intOf i).toNat)
 case atStart=>exact⟨0,4294967295#32,rfl,rfl,by omega,⟨rfl⟩⟩
 case round=>
  obtain⟨k,u,rfl,rfl,hk,HU⟩:=hrel
  by_cases hlt:k<l.length
  ·obtain⟨a,Aj,cj,rfl,_,d0,_,_,hr⟩:=H0.out k hlt
   have hx:=HM.out l[k] (by simp)
   have hw:=HW.out l[k] (by simp)
   obtain⟨x,hxe⟩:∃x,x=l[k]:=⟨_,rfl⟩
   rw[<-hxe] at d0 hr hx hw
   have HX:=As.mk hxe
   have HRR:=As.mk hr
   have HWW:=As.mk hw
   clear hxe hr hw
   go_wp2
   go_loop [3,16] (fun v i=>∃(j:Nat) (t:BitVec 32),i= .int .i64 (j:Int)/\v= .int .u32 (t.toNat:Int)/\j<=x.length/\As (t=crcF u (x.take j))) (fun _ i=>x.length-(intOf i).toNat)
   case atStart=>exact⟨0,u,rfl,rfl,by omega,⟨rfl⟩⟩
   case round=>
    obtain⟨j,t,rfl,rfl,hj,HT⟩:=hrel
    by_cases hlt2:j<x.length
    ·obtain⟨a2,rfl,d1⟩:=HRR.out.int j hlt2
     have hc:=HWW.out x[j] (by simp)
     obtain⟨y,hy⟩:∃y,y=x[j]:=⟨_,rfl⟩
     rw[<-hy] at d1 hc
     have HY:=As.mk hy
     clear hy
     have hy32:=As.mk (byte_bv y hc.1 hc.2)
     have hxy:bits .xor .u32 (t.toNat:Int) y=((t^^^BitVec.ofInt 32 y).toNat:Int):=by rw[<-xor_bv,hy32.out]
     obtain⟨z,hz⟩:∃z,z=t^^^BitVec.ofInt 32 y:=⟨_,rfl⟩
     rw[<-hz] at hxy
     have HZ:=As.mk hz
     clear hz
     go_wp2
     go_loop [3,24] (fun v i=>∃(m:Nat) (r:BitVec 32),i= .int .i64 (m:Int)/\v= .int .u32 (r.toNat:Int)/\m<=8/\As (r=sts m z)) (fun _ i=>8-(intOf i).toNat)
     case atStart=>exact⟨0,z,rfl,rfl,by omega,⟨rfl⟩⟩
     case round=>
      clear hxy d0 d1
      obtain⟨m,r,rfl,rfl,hm8,HRS⟩:=hrel
      by_cases hlt3:m<8
      ·have hst:=st_walk r
       go_wp2
       go_round
       case rel=>exact⟨m+1,st r,by go_num,rfl,by omega,⟨by rw[HRS.out];rfl⟩⟩
       case measure=>simp[intOf];omega
      ·obtain rfl:m=8:=by omega
       go_wp2
       go_round
       case rel=>exact⟨j+1,r,by go_num,rfl,by omega,⟨by rw[HRS.out,HZ.out,HT.out,take_succ' x j hlt2,crcF,crcF,List.foldl_append,<-HY.out];rfl⟩⟩
       case measure=>simp[intOf];omega
    ·go_wp2
     go_round
     case rel=>exact⟨k+1,t,by go_num,rfl,by omega,⟨by rw[HT.out,HU.out,List.take_of_length_le (l:=x) (i:=j) (by omega),HX.out,take_succ' l k hlt,List.flatten_append,crcF,crcF,crcF,List.foldl_append];simp⟩⟩
     case measure=>simp[intOf];omega
  ·have hnot:bits .xor .u32 IntKind.u32.max (u.toNat:Int)=crc l.flatten:=by
    rw[not_bv,HU.out,List.take_of_length_le (l:=l) (i:=k) (by omega)]
    rfl
   go_wp2
   go_ret
   exact⟨rfl,rfl⟩
theorem ref_any(A:Option Addr)(n c:Nat)(x:List Int)(w:World)(hn:x.length=n)(h0:Rd w A (iv .u8 x))(hm:n<=140737488351232)(hw:∀y∈x,0<=y/\y<256):
 Calls Tryz.prog 82 #[.slice A n c] w fun e w'=>e= .returned (.int .u32 (crc x))/\∃n,w'=w.drewN n:=by
 subst hn
 have HRR:=As.mk h0
 have HWW:=As.mk hw
 clear h0 hw
 go_enter Tryz.func82,Tryz.ntmps82
 go_wp2
 go_loopw [3,4] (fun v i wr=>∃(j:Nat) (t:BitVec 32),i= .int .i64 (j:Int)/\v= .int .u32 (t.toNat:Int)/\j<=x.length/\As (t=crcF 4294967295#32 (x.take j))/\∃n,wr=w.drewN n) (fun _ i _=>x.length-(intOf i).toNat)
 case atStart=>exact⟨0,4294967295#32,rfl,rfl,by omega,⟨rfl⟩,0,rfl⟩
 case round=>
  obtain⟨j,t,rfl,rfl,hj,HT,n,rfl⟩:=hrel
  by_cases hlt2:j<x.length
  ·obtain⟨a2,rfl,d1⟩:=HRR.out.int j hlt2
   have hc:=HWW.out x[j] (by simp)
   obtain⟨y,hy⟩:∃y,y=x[j]:=⟨_,rfl⟩
   rw[<-hy] at d1 hc
   have HY:=As.mk hy
   clear hy
   have hy32:=As.mk (byte_bv y hc.1 hc.2)
   have hxy:bits .xor .u32 (t.toNat:Int) y=((t^^^BitVec.ofInt 32 y).toNat:Int):=by rw[<-xor_bv,hy32.out]
   obtain⟨z,hz⟩:∃z,z=t^^^BitVec.ofInt 32 y:=⟨_,rfl⟩
   rw[<-hz] at hxy
   have HZ:=As.mk hz
   clear hz
   go_wp2
   try (go_quiet (fail);go_wp2)
   go_loopw [3,5] (fun v i wr=>∃(m:Nat) (r:BitVec 32),i= .int .i64 (m:Int)/\v= .int .u32 (r.toNat:Int)/\m<=8/\As (r=sts m z)/\∃n,wr=w.drewN n) (fun _ i _=>8-(intOf i).toNat)
   case atStart=>exact⟨0,z,rfl,rfl,by omega,⟨rfl⟩,by first|exact⟨_,rfl⟩|exact⟨_,World.drewN_drewN ..⟩⟩
   case round=>
    clear hxy d1
    obtain⟨m,r,rfl,rfl,hm8,HRS,n2,rfl⟩:=hrel
    by_cases hlt3:m<8
    ·by_cases hb:r.getLsbD 0=true
     ·obtain⟨e1,e2⟩:=st_ref_one r hb
      clear hb
      go_wp2
      go_roundw
      case rel=>exact⟨m+1,st r,by go_num,rfl,by omega,⟨by rw[HRS.out];rfl⟩,by first|exact⟨_,rfl⟩|exact⟨_,World.drewN_drewN ..⟩⟩
      case measure=>simp[intOf];omega
     ·obtain⟨e1,e2⟩:=st_ref_zero r hb
      clear hb
      go_wp2
      go_roundw
      case rel=>exact⟨m+1,st r,by go_num,rfl,by omega,⟨by rw[HRS.out];rfl⟩,by first|exact⟨_,rfl⟩|exact⟨_,World.drewN_drewN ..⟩⟩
      case measure=>simp[intOf];omega
    ·obtain rfl:m=8:=by omega
     go_wp2
     go_roundw
     case rel=>exact⟨j+1,r,by go_num,rfl,by omega,⟨by rw[HRS.out,HZ.out,HT.out,take_succ' x j hlt2,crcF,crcF,List.foldl_append,<-HY.out];rfl⟩,by first|exact⟨_,rfl⟩|exact⟨_,World.drewN_drewN ..⟩⟩
     case measure=>simp[intOf];omega
  ·have hnot:bits .xor .u32 IntKind.u32.max (t.toNat:Int)=crc x:=by
    rw[not_bv,HT.out,List.take_of_length_le (l:=x) (i:=j) (by omega)]
    rfl
   go_wp2
   go_ret
   exact⟨rfl,by first|exact⟨_,rfl⟩|exact⟨_,World.drewN_drewN ..⟩⟩
end Go.Proofs.YtdiljpdohmeceaaGreat.sum
namespace Go.Proofs.YtdiljpdohmeceaaGreat.frame
open Go.RowKit H O joins
theorem rs_pair{w:World}{A3 A4:Option Addr}{n3 c3 n4 c4:Nat}{xs ys:List Int}(h3:xs.length=n3)(h4:ys.length=n4)(r3:Rd w A3 (iv .u8 xs))(r4:Rd w A4 (iv .u8 ys))(l3:n3<=c3)(l4:n4<=c4)(e3:A3=none->c3=0)(e4:A4=none->c4=0)(u:TypeId):
 Rs [] (w.alloc (.cells #[.slice A3 n3 c3,.slice A4 n4 c4] u)) (some ⟨w.heap.size,0,none⟩) [xs,ys]:=by
 subst h3 h4
 have k:=(Kp.refl [] w).alloc (.cells #[.slice A3 xs.length c3,.slice A4 ys.length c4] u)
 refine Vals.rs (vs:=[.slice A3 xs.length c3,.slice A4 ys.length c4]) ⟨rfl,fun j hj=> ?_⟩ (rd_new w [.slice A3 xs.length c3,.slice A4 ys.length c4] u)
 match j,hj with
 |0,_=>exact⟨A3,c3,rfl,l3,e3,k.rd r3 (fun _ _=>by simp)⟩
 |1,_=>exact⟨A4,c4,rfl,l4,e4,k.rd r4 (fun _ _=>by simp)⟩
theorem join_pair{w0 w:World}{A3 A4:Option Addr}{n3 c3 n4 c4:Nat}{xs ys:List Int}(k0:Kp [] w0 w)(h3:xs.length=n3)(h4:ys.length=n4)(r3:Rd w A3 (iv .u8 xs))(r4:Rd w A4 (iv .u8 ys))(l3:n3<=c3)(l4:n4<=c4)(e3:A3=none->c3=0)(e4:A4=none->c4=0)
 (w3:Wf xs) (w4:Wf ys) (hb:n3+n4<=140737488351232):
 Calls Tryz.prog 133 #[.slice (some ⟨w.heap.size,0,none⟩) 2 2] (w.alloc (.cells #[.slice A3 n3 c3,.slice A4 n4 c4] 24)) fun e w'=>∃A c,e= .returned (.slice A (n3+n4) c)/\Kp [] w0 w'/\Jd (xs++ys) w0.heap.size w' (.slice A (n3+n4) c)/\Rd w' A (iv .u8 (xs++ys))/\n3+n4<=c/\c<=9223372036854775807/\(A=none->c=0):=by
 have h:=joins.ojoin_any (some ⟨w.heap.size,0,none⟩) 2 2 [xs,ys] _ rfl (rs_pair h3 h4 r3 r4 l3 l4 e3 e4 24) (Nat.le_refl _) (by
  intro x hx
  simp only[List.mem_cons,List.not_mem_nil,or_false] at hx
  rcases hx with rfl|rfl
  ·exact w3
  ·exact w4) (by simp;omega) (by decide)
 rw[show[xs,ys].flatten=xs++ys from by simp] at h
 refine h.mono ?_
 rintro e w' ⟨v,rfl,K,O⟩
 obtain⟨A,c,rfl,h1,h2,h5,h6⟩:=joins.post_rd O (n3+n4) (by rw[List.length_append,h3,h4]) (by omega)
 have hk:=k0.alloc (.cells #[.slice A3 n3 c3,.slice A4 n4 c4] 24)
 exact⟨A,c,rfl,hk.trans K (by simp),(Jd.lower O hk.size),h5,h1,h2,h6⟩
theorem sum_one{w:World}{A:Option Addr}{n c:Nat}{xs:List Int}(hn:xs.length=n)(hr:Rd w A (iv .u8 xs))(hc:n<=c)(hnil:A=none->c=0)(hw:Wf xs)(hm:n<=140737488351232):
 Calls Tryz.prog 136 #[.slice (some ⟨w.heap.size,0,none⟩) 1 1] (w.alloc (.cells #[.slice A n c] 24)) fun e w'=>e= .returned (.int .u32 (crc xs))/\w'=w.alloc (.cells #[.slice A n c] 24):=by
 have h:=sum.sum_any (some ⟨w.heap.size,0,none⟩) 1 1 [xs] [] _ rfl (rs_cell w A xs n c hn hc hnil 24 (RdS.new hr (Kp.refl _ _) (by simp)) (by simp)) (by decide) (by intro x hx;simp only[List.mem_singleton] at hx;subst hx;omega) (by intro x hx;simp only[List.mem_singleton] at hx;subst hx;exact hw)
 rwa[show[xs].flatten=xs from by simp] at h
theorem four_rd(v:Int)(w:World)(h0:0<=v)(h1:v<4294967296):Calls Tryz.prog 135 #[.int .u32 v] w fun e w'=>∃A,e= .returned (.slice A 4 4)/\Rd w' A (iv .u8 (four v))/\Kp [] w w'/\(A=none->4=0):=by
 refine(four_any v w h0 h1).mono ?_
 rintro e w' ⟨rfl,rfl⟩
 exact⟨_,rfl,rd_new w _ _,(Kp.refl [] w).alloc _,by simp⟩
theorem head_any(v:Int)(w:World)(h0:0<=v)(h1:v<4294967296):Calls Tryz.prog 134 #[.int .u32 v] w fun e w'=>∃A c,e= .returned (.slice A 8 c)/\Kp [] w w'/\Rd w' A (iv .u8 (head v))/\8<=c/\c<=9223372036854775807/\(A=none->c=0):=by
 have HF:=As.mk (fun wX=>four_rd v wX h0 h1)
 have HF1:=As.mk (HF.out w)
 obtain⟨s,hs⟩:∃s,s=crc (four v):=⟨_,rfl⟩
 have HS:=As.mk hs
 have HSB:As (0<=s/\s<4294967296):=⟨by rw[hs];exact crc_le _⟩
 clear hs h0 h1
 go_enter Tryz.func134,Tryz.ntmps134
 go_wp2_with (first
  |(go_at_call 133;refine HJ.out.mono ?_;rintro e w6 ⟨A6,c6,rfl,k6,-,r6,h6,h6',n6⟩;have HR6:=As.mk r6;have HK6:=As.mk k6;clear r6 k6)
  |(go_at_call 135;refine HF3.out.mono ?_;rintro e w5 ⟨A5,rfl,r5,k5,n5⟩;have HJ:=As.mk (join_pair (HK3.out.trans k5 (by simp)) (four_len v) (four_len s) (k5.rd HR3.out (fun _ _=>by simp)) r5 (Nat.le_refl _) (Nat.le_refl _) HN1.out n5 (four_wf v) (four_wf s) (by decide));clear r5 k5 n5 HF3 HK3)
  |(go_at_call 136;refine HSM.out.mono ?_;rintro e w3 ⟨rfl,hw3⟩;have HK3:As (Kp [] w w3):=⟨by rw[hw3];exact HK2.out.alloc _⟩;have HR3:=As.mk (hw3▸((Kp.refl [] w2).alloc _).rd HR12.out (fun _ _=>by simp));rw[<-HS.out];have HF3:=As.mk (four_rd s w3 HSB.out.1 HSB.out.2);clear hw3 HSM HK2)
  |(go_at_call 135;refine HF2.out.mono ?_;rintro e w2 ⟨A2,rfl,r2,k2,n2⟩;have HK2:As (Kp [] w w2):=⟨HK1.out.trans k2 (by simp)⟩;have HR12:=As.mk (k2.rd HR1.out (fun _ _=>by simp));have HSM:=As.mk (sum_one (four_len v) r2 (Nat.le_refl _) n2 (four_wf v) (by decide));clear r2 k2 n2 HF2)
  |(go_at_call 135;refine HF1.out.mono ?_;rintro e w1 ⟨A1,rfl,r1,k1,n1⟩;have HK1:=As.mk k1;have HR1:=As.mk r1;have HN1:=As.mk n1;have HF2:=As.mk (HF.out w1);clear r1 k1 n1 HF1 HF))
 go_ret
 rw[HS.out] at HR6
 exact⟨A6,c6,rfl,HK6.out,HR6.out,h6,h6',n6⟩
def FEnc(p:List Int)(w:World)(e:Ending)(w':World):Prop:=
 ∃A c,e= .returned (.tuple #[.slice A (p.length+12) c,.int .i64 0])/\Kp [] w w'/\Jd (fEnc p) w.heap.size w' (.slice A (p.length+12) c)/\Rd w' A (iv .u8 (fEnc p))/\p.length+12<=c/\c<=9223372036854775807/\(A=none->c=0)
theorem enc_any(A:Option Addr)(n c:Nat)(l:List (List Int))(w:World)(hn:l.length=n)(hr:Rs [] w A l)(hc:n<=c)(hw:∀x∈l,Wf x)(hb:l.flatten.length<=1000000)(hm:n<=140737488351232):
 Calls Tryz.prog 127 #[.slice A n c] w (FEnc l.flatten w):=by
 obtain⟨p,hp⟩:∃p,p=l.flatten:=⟨_,rfl⟩
 obtain⟨T,hT⟩:∃T,p.length=T:=⟨_,rfl⟩
 have hwp:Wf p:=by
  rw[hp]
  intro x hx
  obtain⟨y,hy,hx⟩:=List.mem_flatten.1 hx
  exact hw y hy x hx
 have HJP:As (∀wX,Kp [] w wX->Calls Tryz.prog 133 #[.slice A n c] wX fun e w'=>∃A1 c1,e= .returned (.slice A1 T c1)/\Kp [] wX w'/\Rd w' A1 (iv .u8 p)/\T<=c1/\c1<=9223372036854775807/\(A1=none->c1=0)):=⟨fun wX k=>by
  refine(joins.ojoin_any A n c l wX hn (hr.kp k (by simp)) hc hw (by omega) hm).mono ?_
  rintro e w' ⟨v,rfl,K,O⟩
  rw[<-hp] at O
  obtain⟨A1,c1,rfl,h1,h2,h3,h4⟩:=joins.post_rd O T hT (by rw[<-hT,hp];omega)
  exact⟨A1,c1,rfl,K,h3,h1,h2,h4⟩⟩
 rw[<-hp] at hb⊢
 rw[hT] at hb
 obtain⟨b,hbb⟩:∃b,b=head T++p:=⟨_,rfl⟩
 obtain⟨B,hB⟩:∃B,b.length=B:=⟨_,rfl⟩
 have hBT:B=8+T:=by rw[<-hB,hbb,List.length_append,head_len,hT]
 have hwb:Wf b:=by rw[hbb];exact wf_app (head_wf _) hwp
 obtain⟨s,hs⟩:∃s,s=crc b:=⟨_,rfl⟩
 have HSB:As (0<=s/\s<4294967296):=⟨by rw[hs];exact crc_le _⟩
 have HFE:As (b++four s=fEnc p):=⟨by rw[fEnc,hT,<-hbb,hs]⟩
 have HR:=As.mk hr
 have HP:=As.mk hp
 have HT:=As.mk hT
 have HB:=As.mk hB
 have HBB:=As.mk hbb
 have HBT:=As.mk hBT
 have HWP:=As.mk hwp
 have HWB:=As.mk hwb
 have HS:=As.mk hs
 have HL:=As.mk hn
 clear hn hr hw hp hT hB hbb hBT hwp hwb hs
 go_enter Tryz.func127,Tryz.ntmps127
 go_wp2
 go_loopw [4,10] (fun s i wr=>∃k:Nat,i= .int .i64 (k:Int)/\k<=n/\s= .int .i64 (((l.take k).flatten.length:Nat):Int)/\As (wr=w)) (fun _ i _=>n-(intOf i).toNat)
 case atStart=>exact⟨0,rfl,by omega,rfl,⟨rfl⟩⟩
 case round=>
  obtain⟨k,rfl,hk,rfl,⟨rfl⟩⟩:=hrel
  by_cases hlt:k<n
  ·have hlx:k<l.length:=by rw[HL.out];exact hlt
   obtain⟨a,Aj,cj,rfl,_,d0,hcj,_,_⟩:=HR.out k hlx
   have hfs:=congrArg List.length (joins.flat_step l k hlx)
   have hfl:=joins.flat_le l (k+1)
   rw[<-HP.out,HT.out] at hfl
   rw[List.length_append] at hfs
   obtain⟨len,hlen⟩:∃len,l[k].length=len:=⟨_,rfl⟩
   obtain⟨acc,hacc⟩:∃acc,(l.take k).flatten.length=acc:=⟨_,rfl⟩
   obtain⟨acc',hacc'⟩:∃acc',(l.take (k+1)).flatten.length=acc':=⟨_,rfl⟩
   rw[hlen] at d0 hcj hfs
   rw[hacc,hacc'] at hfs
   rw[hacc'] at hfl
   rw[hacc]
   have HA':=As.mk hacc'
   have HFS:=As.mk hfs
   have HFL:acc+len<=T:=by omega
   clear hfs hfl hlen hacc hacc'
   go_wp2
   go_roundw
   case rel=>exact⟨k+1,by go_num,by omega,by rw[HA'.out,HFS.out];go_num,⟨trivial⟩⟩
   case measure=>simp[intOf];omega
  ·obtain rfl:k=n:=by omega
   have hall:(l.take k).flatten.length=T:=by rw[List.take_of_length_le (by rw[HL.out];exact Nat.le_refl _),<-HP.out,HT.out]
   rw[hall]
   clear hall
   have hT32:(T:Int)%4294967296=T:=by omega
   have hwT:IntKind.u32.wrap (T:Int)=T:=by rw[IntKind.wrap_u32];exact hT32
   have HHD:=As.mk (head_any (T:Int) wr (by omega) (by omega))
   go_wp2_with (first
    |(go_at_call 134;refine HHD.out.mono ?_;rintro e w1 ⟨A1,c1,rfl,k1,r1,h1,h1',n1⟩;have HK1:=As.mk k1;have HR1:=As.mk r1;have HN1:=As.mk n1;have HJ1:=As.mk (HJP.out w1 k1);clear r1 k1 n1 HHD))
   go_wp2_with (go_at_call 133;refine HJ1.out.mono ?_;rintro e w2 ⟨A2,c2,rfl,k2,r2,h2,h2',n2⟩;have HJ2:=As.mk (join_pair (HK1.out.trans k2 (by simp)) (head_len (T:Int)) HT.out (k2.rd HR1.out (fun _ _=>by simp)) r2 h1 h2 HN1.out n2 (head_wf _) HWP.out (by omega));rw[<-HBB.out,<-HBT.out] at HJ2;clear k2 r2 n2 HJ1)
   go_wp2_with (go_at_call 133;refine HJ2.out.mono ?_;rintro e w3 ⟨A3,c3,rfl,k3,-,r3,h3,h3',n3⟩;have HK3:=As.mk k3;have HR3:=As.mk r3;have HN3:=As.mk n3;have HSM:=As.mk (sum_one HB.out r3 h3 n3 HWB.out (by have:=HBT.out;omega));rw[<-HS.out] at HSM;clear k3 r3 n3 HJ2)
   go_wp2_with (first
    |(go_at_call 136;refine HSM.out.mono ?_;rintro e w4 ⟨rfl,hw4⟩;have HK4:As (Kp [] wr w4):=⟨by rw[hw4];exact HK3.out.alloc _⟩;have HR4:=As.mk (hw4▸((Kp.refl [] w3).alloc _).rd HR3.out (fun _ _=>by simp));have HF4:=As.mk (four_rd s w4 HSB.out.1 HSB.out.2);clear hw4 HSM)
    |(go_at_call 135;refine HF4.out.mono ?_;rintro e w5 ⟨A5,rfl,r5,k5,n5⟩;have HJ3:=As.mk (join_pair (HK4.out.trans k5 (by simp)) HB.out (four_len s) (k5.rd HR4.out (fun _ _=>by simp)) r5 h3 (Nat.le_refl _) HN3.out n5 HWB.out (four_wf s) (by have:=HBT.out;omega));rw[HFE.out] at HJ3;clear r5 k5 n5 HF4)
    |(go_at_call 133;refine HJ3.out.mono ?_;rintro e w6 ⟨A6,c6,rfl,k6,j6,r6,h6,h6',n6⟩;have HJD:=As.mk j6;have HR6:=As.mk r6;have HK6:=As.mk k6;have HN6:=As.mk n6;clear r6 k6 j6 n6 HJ3))
   go_ret2
   have e12:p.length+12=B+4:=by rw[HT.out,HBT.out];omega
   unfold FEnc
   rw[e12]
   exact⟨A6,c6,rfl,HK6.out,HJD.out,HR6.out,h6,h6',HN6.out⟩
def FDec(xs:List Int)(w:World)(e:Ending)(w':World):Prop:=
 ∃v,e= .returned (.tuple #[v,.int .i64 (((fDec xs).2.1:Nat):Int),.int .i64 (fDec xs).2.2])/\Own 5 .u8 w' w.heap.size v (fDec xs).1/\Kp [] w w'
theorem fdec_none{xs:List Int}{w w':World}{z:Int}(h:fDec xs=([],0,z))(k:Kp [] w w'):FDec xs w (.returned (.tuple #[.slice none 0 0,.int .i64 0,.int .i64 z])) w':=by
 refine⟨_,by rw[h];rfl, ?_,k⟩
 rw[h]
 exact Own.nil _ _ _ _
theorem dec_any(A:Option Addr)(n c:Nat)(xs:List Int)(w:World)(hn:xs.length=n)(hr:Rd w A (iv .u8 xs))(hc:n<=c)(hw:Wf xs)(hm:n<=140737488351232):
 Calls Tryz.prog 128 #[.slice A n c] w (FDec xs w):=by
 by_cases h8:n<8
 ·have HE:As (fDec xs=([],0,2)):=⟨by rw[fDec,if_pos (by omega)]⟩
  clear hr hw hn
  go_enter Tryz.func128,Tryz.ntmps128
  go_wp2
  go_ret3
  exact fdec_none HE.out (Kp.refl _ _)
 ·obtain⟨a,rfl,d9⟩:=hr.int 0 (by omega)
  obtain⟨b0,o0,sp⟩:=a
  obtain rfl:sp=none:=by simpa [Addr.add] using World.cell?_spot d9
  clear d9
  obtain⟨N,hN⟩:∃N:Nat,(unf xs)=(N:Int):=Int.eq_ofNat_of_zero_le (unf_le hw).1
  have hN32:=(unf_le hw).2
  rw[hN] at hN32
  have HF:=As.mk (from_any (some ⟨b0,o0,none⟩) n c xs w hn hr hw (by omega))
  rw[hN] at HF
  have HHD:As (∀wX,_):=⟨fun wX=>head_any (N:Int) wX (by omega) hN32⟩
  have hsl8:∀W,(Instr.slice 24 (.slice (some ⟨b0,o0,none⟩) n c) none (some (.int .i64 8)) none).run Tryz.prog W= .ok (.slice (some ⟨b0,o0,none⟩) 8 c) W:=slice_head ht8 hz8 (some ⟨b0,o0,none⟩) n c 8 (by omega) (by simp)
  have HEQ:As (∀(A1:Option Addr) (c1:Nat) (wX:World),Kp [] w wX->Rd wX A1 (iv .u8 (head N))->Calls Tryz.prog 138 #[.slice (some ⟨b0,o0,none⟩) 8 c,.slice A1 8 c1] wX fun e w'=>e= .returned (.bool (decide (xs.take 8=head N)))/\w'=wX):=⟨fun A1 c1 wX k r1=>by
   refine equal_any (some ⟨b0,o0,none⟩) A1 8 c 8 c1 (xs.take 8) (head N) wX (by rw[List.length_take];omega) (head_len _) ?_ r1 (hw.take 8) (head_wf _)
   have h:=(k.rd_new hr (by simp)).take 8
   rwa[iv_take] at h⟩
  have hw32:IntKind.u32.wrap (N:Int)=N:=by rw[IntKind.wrap_u32];omega
  have hw64:IntKind.i64.wrap (N:Int)=N:=by rw[IntKind.wrap_i64];omega
  have HN32:=As.mk hN32
  clear hN32
  by_cases hh:xs.take 8=head N
  ·have hd1:decide (xs.take 8=head N)=true:=decide_eq_true hh
   rw[hd1] at HEQ
   by_cases hbig:1048576<N
   ·have HE:As (fDec xs=([],0,5)):=⟨by rw[fDec,if_neg (by omega),hN,if_neg (by simpa using hh),if_pos (by omega)]⟩
    clear hr hw hn hN hh hd1
    go_enter Tryz.func128,Tryz.ntmps128
    go_wp2_with (go_at_call 137;refine HF.out.mono ?_;rintro e w1 ⟨rfl,n1,hw1⟩;have HK1:As (Kp [] w w1):=⟨by rw[hw1];exact(Kp.refl [] w).drewN _⟩;clear hw1 HF)
    go_region_held3 (fun w'=>True) (exact trivial) (first
     |(go_at_call 138;refine(HEQ.out _ _ _ HK2.out HR2.out).mono ?_;rintro e w3 ⟨rfl,hw3⟩;have HK3:As (Kp [] w w3):=⟨by rw[hw3];exact HK2.out⟩;clear hw3)
     |(go_at_call 134;refine(HHD.out _).mono ?_;rintro e w2 ⟨A2,c2,rfl,k2,r2,h2,h2',n2⟩;have HK2:As (Kp [] w w2):=⟨(HK1.out.drew).trans k2 (by simp)⟩;have HR2:=As.mk r2;clear k2 r2 n2))
    clear HHD HEQ
    go_wp2
    go_ret3
    exact fdec_none HE.out HK3.out
   ·by_cases hsh:n<12+N
    ·have HE:As (fDec xs=([],0,2)):=⟨by rw[fDec,if_neg (by omega),hN,if_neg (by simpa using hh),if_neg (by omega),if_pos (by omega)]⟩
     have hsh':(n:Int)-8-4<(N:Int):=by omega
     clear hr hw hn hN hh hd1
     go_enter Tryz.func128,Tryz.ntmps128
     go_wp2_with (go_at_call 137;refine HF.out.mono ?_;rintro e w1 ⟨rfl,n1,hw1⟩;have HK1:As (Kp [] w w1):=⟨by rw[hw1];exact(Kp.refl [] w).drewN _⟩;clear hw1 HF)
     go_region_held3 (fun w'=>True) (exact trivial) (first
      |(go_at_call 138;refine(HEQ.out _ _ _ HK2.out HR2.out).mono ?_;rintro e w3 ⟨rfl,hw3⟩;have HK3:As (Kp [] w w3):=⟨by rw[hw3];exact HK2.out⟩;clear hw3)
      |(go_at_call 134;refine(HHD.out _).mono ?_;rintro e w2 ⟨A2,c2,rfl,k2,r2,h2,h2',n2⟩;have HK2:As (Kp [] w w2):=⟨(HK1.out.drew).trans k2 (by simp)⟩;have HR2:=As.mk r2;clear k2 r2 n2))
     clear HHD HEQ
     go_wp2
     go_ret3
     exact fdec_none HE.out HK3.out
    ·have hsh':¬((n:Int)-8-4<(N:Int)):=by omega
     obtain⟨M,hM⟩:∃M,M=8+N:=⟨_,rfl⟩
     have hMi:(8:Int)+(N:Int)=(M:Int):=by omega
     have hslM:∀W,(Instr.slice 24 (.slice (some ⟨b0,o0,none⟩) n c) none (some (.int .i64 (M:Int))) none).run Tryz.prog W= .ok (.slice (some ⟨b0,o0,none⟩) M c) W:=slice_head ht8 hz8 (some ⟨b0,o0,none⟩) n c M (by omega) (by simp)
     obtain⟨a2,hsl2,hrd2⟩:=slice_tail ht8 hz8 ⟨b0,o0,none⟩ n c M (by omega) hc
     obtain⟨n2,hn2⟩:∃n2,n-M=n2:=⟨_,rfl⟩
     obtain⟨c2',hc2⟩:∃c2,c-M=c2:=⟨_,rfl⟩
     have hN3:M-8=N:=by omega
     rw[hn2,hc2] at hsl2
     obtain⟨z1,hz1⟩:∃z,unf (xs.drop M)=z:=⟨_,rfl⟩
     obtain⟨z2,hz2⟩:∃z,crc (xs.take M)=z:=⟨_,rfl⟩
     have HF2:As (∀wX,Kp [] w wX->Calls Tryz.prog 137 #[.slice (some a2) n2 c2'] wX fun e w'=>e= .returned (.int .u32 z1)/\Kp [] w w'):=⟨fun wX k=>by
      have h:=hrd2 wX (iv .u8 xs) (by rw[iv_len,hn]) (k.rd_new hr (by simp))
      rw[iv_drop] at h
      refine(from_any (some a2) n2 c2' (xs.drop M) wX (by rw[List.length_drop];omega) h (hw.drop M) (by omega)).mono ?_
      rintro e w' ⟨rfl,nk,rfl⟩
      exact⟨by rw[hz1],k.drewN _⟩⟩
     have HTK:As (∀wX,Kp [] w wX->Rd wX (some ⟨b0,o0,none⟩) (iv .u8 (xs.take M))):=⟨fun wX k=>by
      have h:=(k.rd_new hr (by simp)).take M
      rwa[iv_take] at h⟩
     have hlM:(xs.take M).length=M:=by rw[List.length_take];omega
     have hwM:=hw.take M
     have HSM:As (∀wX,Kp [] w wX->Calls Tryz.prog 136 #[.slice (some ⟨wX.heap.size,0,none⟩) 1 1] (wX.alloc (.cells #[.slice (some ⟨b0,o0,none⟩) M c] 24)) fun e w'=>e= .returned (.int .u32 z2)/\Kp [] w w'):=⟨fun wX k=>by
      refine(sum_one hlM (HTK.out wX k) (by omega) (by simp) hwM (by omega)).mono ?_
      rintro e w' ⟨rfl,rfl⟩
      exact⟨by rw[hz2],k.alloc _⟩⟩
     have hcnt:12+N=M+4:=by omega
     by_cases hz:z1=z2
     ·have HE:As (fDec xs=((xs.take M).drop 8,M+4,0)):=⟨by
       rw[fDec,if_neg (by omega),hN,if_neg (by simpa using hh),if_neg (by omega),if_neg (by omega),Int.toNat_natCast,<-hM,if_neg (by rw[hz1,hz2];simpa using hz),hcnt]⟩
      have HCL:As (∀wX,Kp [] w wX->Calls Tryz.prog 118 #[.slice (some ⟨b0,o0+8,none⟩) (M-8) (c-8)] wX (RetOwn 5 .u8 wX ((xs.take M).drop 8))):=⟨fun wX k=>by
       have h:=(HTK.out wX k).drop 8
       rw[iv_drop,Go.WideShapes.add_plain] at h
       exact clone.clone_any (some ⟨b0,o0+8,none⟩) (M-8) (c-8) ((xs.take M).drop 8) wX (by rw[List.length_drop,hlM]) h (by simp) (by omega)⟩
      subst hz
      clear hr hw hn hN hh hd1 hrd2 hz1 hz2 hlM hwM HTK hM hn2 hc2 hN3 hcnt
      have h8c:(8:Int)<=(M:Int):=by omega
      have h8d:(8:Int)<=(c:Int):=by omega
      have h8e:¬c=8:=by omega
      go_enter Tryz.func128,Tryz.ntmps128
      go_wp2_with (go_at_call 137;refine HF.out.mono ?_;rintro e w1 ⟨rfl,n1,hw1⟩;have HK1:As (Kp [] w w1):=⟨by rw[hw1];exact(Kp.refl [] w).drewN _⟩;clear hw1 HF)
      go_region_held3 (fun w'=>True) (exact trivial) (first
       |(go_at_call 138;refine(HEQ.out _ _ _ HK2.out HR2.out).mono ?_;rintro e w3 ⟨rfl,hw3⟩;have HK3:As (Kp [] w w3):=⟨by rw[hw3];exact HK2.out⟩;clear hw3)
       |(go_at_call 134;refine(HHD.out _).mono ?_;rintro e w2 ⟨A2,c2,rfl,k2,r2,h2,h2',n2⟩;have HK2:As (Kp [] w w2):=⟨(HK1.out.drew).trans k2 (by simp)⟩;have HR2:=As.mk r2;clear k2 r2 n2))
      clear HHD HEQ
      go_wp2_with (first
       |(go_at_call 137;refine(HF2.out _ HK3.out).mono ?_;rintro e w4 ⟨rfl,k4⟩;have HK4:=As.mk k4;have HS4:=As.mk (HSM.out w4 k4);clear k4 HF2)
       |(go_at_call 136;refine HS4.out.mono ?_;rintro e w5 ⟨rfl,k5⟩;have HK5:=As.mk k5;have HC5:=As.mk (HCL.out w5 k5);clear k5 HS4)
       |(go_at_call 118;refine HC5.out.mono ?_;rintro e w6 ⟨v6,rfl,o6,k6⟩;have HO6:=As.mk (o6.lower HK5.out.size);have HK6:As (Kp [] w w6):=⟨HK5.out.trans k6 (by simp)⟩;clear k6 o6 HC5))
      go_ret3
      refine⟨v6,by rw[HE.out];rfl, ?_,HK6.out⟩
      rw[HE.out]
      exact HO6.out
     ·have HE:As (fDec xs=([],0,4)):=⟨by
       rw[fDec,if_neg (by omega),hN,if_neg (by simpa using hh),if_neg (by omega),if_neg (by omega),Int.toNat_natCast,<-hM,if_pos (by rw[hz1,hz2];exact hz)]⟩
      have hzb:(z1 !=z2)=true:=by simpa using hz
      clear hr hw hn hN hh hd1 hrd2 hz1 hz2 hlM hwM HTK hM hn2 hc2 hN3 hcnt hz
      go_enter Tryz.func128,Tryz.ntmps128
      go_wp2_with (go_at_call 137;refine HF.out.mono ?_;rintro e w1 ⟨rfl,n1,hw1⟩;have HK1:As (Kp [] w w1):=⟨by rw[hw1];exact(Kp.refl [] w).drewN _⟩;clear hw1 HF)
      go_region_held3 (fun w'=>True) (exact trivial) (first
       |(go_at_call 138;refine(HEQ.out _ _ _ HK2.out HR2.out).mono ?_;rintro e w3 ⟨rfl,hw3⟩;have HK3:As (Kp [] w w3):=⟨by rw[hw3];exact HK2.out⟩;clear hw3)
       |(go_at_call 134;refine(HHD.out _).mono ?_;rintro e w2 ⟨A2,c2,rfl,k2,r2,h2,h2',n2⟩;have HK2:As (Kp [] w w2):=⟨(HK1.out.drew).trans k2 (by simp)⟩;have HR2:=As.mk r2;clear k2 r2 n2))
      clear HHD HEQ
      go_wp2_with (first
       |(go_at_call 137;refine(HF2.out _ HK3.out).mono ?_;rintro e w4 ⟨rfl,k4⟩;have HK4:=As.mk k4;have HS4:=As.mk (HSM.out w4 k4);clear k4 HF2)
       |(go_at_call 136;refine HS4.out.mono ?_;rintro e w5 ⟨rfl,k5⟩;have HK5:=As.mk k5;clear k5 HS4))
      go_ret3
      exact fdec_none HE.out HK5.out
  ·have hd1:decide (xs.take 8=head N)=false:=decide_eq_false hh
   rw[hd1] at HEQ
   have HE:As (fDec xs=([],0,4)):=⟨by rw[fDec,if_neg (by omega),hN,if_pos hh]⟩
   clear hr hw hn hN hh hd1
   go_enter Tryz.func128,Tryz.ntmps128
   go_wp2_with (go_at_call 137;refine HF.out.mono ?_;rintro e w1 ⟨rfl,n1,hw1⟩;have HK1:As (Kp [] w w1):=⟨by rw[hw1];exact(Kp.refl [] w).drewN _⟩;clear hw1 HF)
   go_region_held3 (fun w'=>True) (exact trivial) (first
    |(go_at_call 138;refine(HEQ.out _ _ _ HK2.out HR2.out).mono ?_;rintro e w3 ⟨rfl,hw3⟩;have HK3:As (Kp [] w w3):=⟨by rw[hw3];exact HK2.out⟩;clear hw3)
    |(go_at_call 134;refine(HHD.out _).mono ?_;rintro e w2 ⟨A2,c2,rfl,k2,r2,h2,h2',n2⟩;have HK2:As (Kp [] w w2):=⟨(HK1.out.drew).trans k2 (by simp)⟩;have HR2:=As.mk r2;clear k2 r2 n2))
   clear HHD HEQ
   go_wp2
   go_ret3
   exact fdec_none HE.out HK3.out
end Go.Proofs.YtdiljpdohmeceaaGreat.frame
namespace Go.Proofs.YtdiljpdohmeceaaGreat.O
open Go.RowKit H
theorem fDec_form(b:List Int):(fDec b).2.2=0\/fDec b=([],0,(fDec b).2.2):=by
 unfold fDec
 repeat' split
 all_goals first
  |exact .inr rfl
  |exact .inl rfl
end Go.Proofs.YtdiljpdohmeceaaGreat.O
namespace Go.Proofs.YtdiljpdohmeceaaGreat.opk
open Go.RowKit H O haystacklaw13
def PlAt(w:World)(b:Nat)(key:ByteArray)(x:Int):Prop:=w.heap[b]?=some (.cells #[.string key,.int .i64 x] 73)
theorem PlAt.cells{w:World}{b:Nat}{key:ByteArray}{x:Int}(h:PlAt w b key x):w.cell? ⟨b,0,none⟩=some (.string key)/\w.cell? ⟨b,1,none⟩=some (.int .i64 x):=⟨bkc h 0 rfl,bkc h 1 rfl⟩
theorem PlAt.new(w:World)(key:ByteArray)(x:Int):PlAt (w.alloc (.cells #[.string key,.int .i64 x] 73)) w.heap.size key x:=heap_alloc_new w _
theorem PlAt.kp{S:List Nat}{w w1:World}{b:Nat}{key:ByteArray}{x:Int}(h:PlAt w b key x)(hk:Kp S w w1)(hb:b∉S):PlAt w1 b key x:=hk.blk h hb
theorem PlAt.free{w:World}{b:Nat}{key:ByteArray}{x:Int}(h:PlAt w b key x)(j:Nat):w.frozen? ⟨b,j,none⟩=false:=blk_free h j
structure MW(w:World)(b:Nat)(ys:List Int)(wr:World):Prop where
 lo:w.heap.size<=b
 kp:Kp [] w wr
 wr:∃g,writer.Wr wr b g ys/\∀x,g=some x->w.heap.size<=x
theorem MW.new(w:World):MW w w.heap.size [] (w.alloc (.cells #[.slice none 0 0] 177)):=
 ⟨Nat.le_refl _,(Kp.refl [] w).alloc _,none,writer.Wr.new w,by simp⟩
theorem MW.keep{w wr w1:World}{b:Nat}{ys:List Int}(h:MW w b ys wr)(k:Kp [] wr w1):MW w b ys w1:=by
 obtain⟨g,h1,h2⟩:=h.wr
 exact⟨h.lo,h.kp.trans k (by simp),g,h1.kp k (by simp) (by simp),h2⟩
theorem MW.next{w wr w1:World}{b:Nat}{ys zs:List Int}{g g':Option Nat}(h:MW w b ys wr)(hg:∀x,g=some x->w.heap.size<=x)(W:writer.Wr w1 b g' zs)(A:At wr.heap.size g g')(k:Kp (b::g.toList) wr w1):MW w b zs w1:=by
 refine⟨h.lo,h.kp.trans k ?_,g',W,A.ge h.kp.size hg⟩
 intro x hx
 rcases List.mem_cons.1 hx with rfl|hx
 ·exact .inr h.lo
 ·exact .inr (hg x (by simpa using hx))
theorem mat_out{w wr:World}{b:Nat}{ys:List Int}(h:MW w b ys wr)(hy:ys.length<=10000000):
 Calls Tryz.prog 107 #[.pointer (some ⟨b,0,none⟩)] wr (fun e w'=>∃v,e= .returned v/\Own 5 .u8 w' w.heap.size v ys/\Kp [] w w'):=by
 obtain⟨g,h1,h2⟩:=h.wr
 refine(writer.out_any b g ys wr h1 (by omega)).mono ?_
 rintro e w6 ⟨v,rfl,O6,K6⟩
 exact⟨v,rfl,O6.lower h.kp.size,h.kp.trans K6 (by simp)⟩
end Go.Proofs.YtdiljpdohmeceaaGreat.opk
namespace Go.Proofs.YtdiljpdohmeceaaGreat.wir
open Go.RowKit H O opk frame
theorem wr_byte{w wr:World}{b:Nat}{ys:List Int}(h:MW w b ys wr)(x:Int)(hy:ys.length<=1000000):
 Calls Tryz.prog 126 #[.pointer (some ⟨b,0,none⟩),.slice (some ⟨wr.heap.size,0,none⟩) 1 1] (wr.alloc (.cells #[.int .u8 x] 5)) fun e w'=>e= .returned (.tuple #[])/\MW w b (ys++[x]) w':=by
 obtain⟨g,h1,h2⟩:=h.wr
 refine(writer.raw_any b g ys (some ⟨wr.heap.size,0,none⟩) 1 1 [x] _ (h1.kp ((Kp.refl [] wr).alloc _) (by simp) (by simp)) rfl (rd_new wr _ _) (by simp) (by omega)).mono ?_
 rintro e w' ⟨rfl,g',W,A,K⟩
 exact⟨rfl,(h.keep ((Kp.refl [] wr).alloc _)).next h2 W A K⟩
theorem wr_row{w wr:World}{b:Nat}{ys:List Int}(h:MW w b ys wr)(A:Option Addr)(n c:Nat)(xs:List Int)(hn:xs.length=n)(hr:Rd w A (iv .u8 xs))(hc:n<=c)(hnil:A=none->c=0)(hy:ys.length<=1000000)(hm:n<=1000000):
 Calls Tryz.prog 106 #[.pointer (some ⟨b,0,none⟩),.slice (some ⟨wr.heap.size,0,none⟩) 1 1] (wr.alloc (.cells #[.slice A n c] 24)) fun e w'=>e= .returned (.tuple #[])/\MW w b (ys++row xs) w':=by
 obtain⟨g,h1,h2⟩:=h.wr
 have hl:=h1.lt
 have hS:∀x∈b::g.toList,w.heap.size<=x/\x<wr.heap.size:=by
  intro x hx
  rcases List.mem_cons.1 hx with rfl|hx
  ·exact⟨h.lo,hl.1⟩
  ·exact⟨h2 x (by simpa using hx),hl.2 x (by simpa using hx)⟩
 have hrs:=rs_cell (S:=b::g.toList) wr A xs n c hn hc hnil 24 (RdS.new hr h.kp (fun x hx=>(hS x hx).1)) (fun x hx=>(hS x hx).2)
 refine(writer.bytes_any b g ys (some ⟨wr.heap.size,0,none⟩) 1 1 [xs] _ (h1.kp ((Kp.refl [] wr).alloc _) (by simp) (by simp)) rfl hrs (by simp;omega)).mono ?_
 rintro e w' ⟨rfl,g',W,A,K⟩
 rw[show rows [xs]=row xs from by simp[rows]] at W
 exact⟨rfl,(h.keep ((Kp.refl [] wr).alloc _)).next h2 W A K⟩
theorem wr_nums{w wr:World}{b:Nat}{ys:List Int}(h:MW w b ys wr)(A:Option Addr)(n c:Nat)(vs:List Int)(hn:vs.length=n)(hr:Rd w A (iv .i64 vs))(hy:ys.length<=1000000)(hm:n<=1000000):
 Calls Tryz.prog 105 #[.pointer (some ⟨b,0,none⟩),.slice A n c] wr fun e w'=>e= .returned (.tuple #[])/\MW w b (ys++nums vs) w':=by
 obtain⟨g,h1,h2⟩:=h.wr
 have hS:∀x∈b::g.toList,w.heap.size<=x:=by
  intro x hx
  rcases List.mem_cons.1 hx with rfl|hx
  ·exact h.lo
  ·exact h2 x (by simpa using hx)
 refine(writer.nums_any b g ys A n c vs wr h1 hn (RdS.new hr h.kp hS) (by omega)).mono ?_
 rintro e w' ⟨rfl,g',W,A,K⟩
 exact⟨rfl,h.next h2 W A K⟩
def pay(mark:Int)(vs xs:List Int):List Int:=([]++[mark]++nums vs)++row xs
theorem pay_len(mark:Int)(vs xs:List Int)(h:vs.length<=3):(pay mark vs xs).length<=100+xs.length:=by
 have h1:=nums_len vs
 have h2:=num_len (xs.length:Int)
 simp only[pay,row,List.length_append,List.length_nil,List.length_singleton]
 omega
theorem pay_wf{mark:Int}{vs xs:List Int}(hm:0<=mark/\mark<256)(hw:Wf xs):Wf (pay mark vs xs):=by
 intro x hx
 rcases List.mem_append.1 hx with h|h
 ·rcases List.mem_append.1 h with h|h
  ·simp at h;omega
  ·exact nums_u8 _ x h
 ·rcases List.mem_append.1 h with h|h
  ·exact num_u8 _ x h
  ·exact hw x h
theorem framed_any(mark:Int)(A:Option Addr)(n c:Nat)(xs:List Int)(B:Option Addr)(m d:Nat)(vs:List Int)(w:World)(hmk:0<=mark/\mark<256)(hn:xs.length=n)(hr:Rd w A (iv .u8 xs))(hc:n<=c)(hnil:A=none->c=0)(hw:Wf xs)(hm:vs.length=m)(hb:Rd w B (iv .i64 vs))(hn9:n<=600000)(hm9:m<=3):
 Calls Tryz.prog 111 #[.int .u8 mark,.slice A n c,.slice B m d] w (FEnc (pay mark vs xs) w):=by
 obtain⟨p,hp⟩:∃p,pay mark vs xs=p:=⟨_,rfl⟩
 obtain⟨L,hL⟩:∃L,p.length=L:=⟨_,rfl⟩
 have hL9:L<=600100:=by have:=pay_len mark vs xs (by omega);rw[<-hL,<-hp];omega
 have hpw:Wf p:=by rw[<-hp];exact pay_wf hmk hw
 have hl1:=nums_len vs
 have H1:As (Calls Tryz.prog 126 #[.pointer (some ⟨w.heap.size,0,none⟩),.slice (some ⟨w.heap.size+1,0,none⟩) 1 1] ((w.alloc (.cells #[.slice none 0 0] 177)).alloc (.cells #[.int .u8 mark] 5)) fun e w'=>e= .returned (.tuple #[])/\MW w w.heap.size ([]++[mark]) w'):=⟨by
  have:=wr_byte (MW.new w) mark (by simp)
  rw[World.size_alloc] at this
  exact this⟩
 have H2:As (∀w1,MW w w.heap.size ([]++[mark]) w1->Calls Tryz.prog 105 #[.pointer (some ⟨w.heap.size,0,none⟩),.slice B m d] w1 fun e w'=>e= .returned (.tuple #[])/\MW w w.heap.size ([]++[mark]++nums vs) w'):=⟨fun w1 h1=>wr_nums h1 B m d vs hm hb (by simp) (by omega)⟩
 have H3:As (∀w1,MW w w.heap.size ([]++[mark]++nums vs) w1->Calls Tryz.prog 106 #[.pointer (some ⟨w.heap.size,0,none⟩),.slice (some ⟨w1.heap.size,0,none⟩) 1 1] (w1.alloc (.cells #[.slice A n c] 24)) fun e w'=>e= .returned (.tuple #[])/\MW w w.heap.size p w'):=⟨fun w1 h1=>by
  have:=wr_row h1 A n c xs hn hr hc hnil (by simp only[List.length_append,List.length_nil,List.length_singleton];omega) (by omega)
  rw[show([]++[mark]++nums vs)++row xs=p from hp] at this
  exact this⟩
 have H4:As (∀w2,MW w w.heap.size p w2->Calls Tryz.prog 107 #[.pointer (some ⟨w.heap.size,0,none⟩)] w2 (fun e w'=>∃A2 c2,e= .returned (.slice A2 L c2)/\Rd w' A2 (iv .u8 p)/\L<=c2/\(A2=none->c2=0)/\Kp [] w w')):=⟨fun w2 h2=>by
  refine(mat_out h2 (by omega)).mono ?_
  rintro e w' ⟨v,rfl,o,k⟩
  obtain⟨A2,c2,rfl,h1,_,r,h3⟩:=own_rd o.1
  rw[hL] at h1⊢
  exact⟨A2,c2,rfl,r,h1,h3,k⟩⟩
 have H5:As (∀w3 A2 c2,Rd w3 A2 (iv .u8 p)->L<=c2->(A2=none->c2=0)->Kp [] w w3->Calls Tryz.prog 127 #[.slice (some ⟨w3.heap.size,0,none⟩) 1 1] (w3.alloc (.cells #[.slice A2 L c2] 24)) (fun e w'=>∃A c,e= .returned (.tuple #[.slice A (L+12) c,.int .i64 0])/\As (FEnc p w (.returned (.tuple #[.slice A (L+12) c,.int .i64 0])) w'))):=⟨fun w3 A2 c2 r h1 h2 k=>by
  have hrs:=rs_cell (S:=[]) w3 A2 p L c2 hL h1 h2 24 (RdS.new r (Kp.refl _ _) (by simp)) (by simp)
  have:=enc_any (some ⟨w3.heap.size,0,none⟩) 1 1 [p] _ rfl hrs (Nat.le_refl _) (by intro x hx;simp only[List.mem_singleton] at hx;subst hx;exact hpw) (by simp;omega) (by omega)
  rw[show[p].flatten=p from by simp] at this
  refine this.mono ?_
  rintro e w' ⟨A,c,rfl,k2,j,r2,h3,h4,h5⟩
  rw[hL] at j h3⊢
  have kA:Kp [] w (w3.alloc (.cells #[.slice A2 L c2] 24)):=k.alloc _
  refine⟨A,c,rfl,⟨A,c, ?_,kA.trans k2 (by simp), ?_,r2, ?_,h4,h5⟩⟩
  ·rw[hL]
  ·rw[hL];exact j.lower kA.size
  ·rw[hL];exact h3⟩
 rw[hp]
 clear hp hL hpw hn hr hb hm hw
 go_enter Tryz.func111,Tryz.ntmps111
 go_wp2_with (first
  |(go_at_call 126;refine H1.out.mono ?_;rintro e w1 ⟨rfl,m1⟩;have HM1:=As.mk (H2.out w1 m1);clear m1 H1 H2)
  |(go_at_call 105;refine HM1.out.mono ?_;rintro e w2 ⟨rfl,m2⟩;have HM2:=As.mk (H3.out w2 m2);clear m2 H3 HM1)
  |(go_at_call 106;refine HM2.out.mono ?_;rintro e w3 ⟨rfl,m3⟩;have HM3:=As.mk (H4.out w3 m3);clear m3 H4 HM2)
  |(go_at_call 107;refine HM3.out.mono ?_;rintro e w4 ⟨A2,c2,rfl,r2,h1,h2,k4⟩;have HM4:=As.mk (H5.out w4 A2 c2 r2 h1 h2 k4);clear r2 h1 h2 k4 H5 HM3)
  |(go_at_call 127;refine HM4.out.mono ?_;rintro e w5 ⟨A5,c5,rfl,HE⟩;clear HM4))
 go_ret2
 exact HE.out
theorem ret_bool{a b:Bool}(h:a=b):Ending.returned (.bool a)= .returned (.bool b):=by rw[h]
theorem within_any(n a m:Int)(w:World):Calls Tryz.prog 116 #[.int .i64 n,.int .i64 a,.int .i64 m] w fun e w'=>e= .returned (.bool (decide (a<=n/\n<=m)))/\w'=w:=by
 go_enter Tryz.func116,Tryz.ntmps116
 by_cases h1:a<=n
 ·by_cases h2:n<=m
  ·go_wp2
   go_ret
   exact⟨ret_bool (decide_eq_true (by omega)).symm,rfl⟩
  ·go_wp2
   go_ret
   exact⟨ret_bool (decide_eq_false (by omega)).symm,rfl⟩
 ·go_wp2
  go_ret
  exact⟨ret_bool (by simp;omega),rfl⟩
def rqOk(k c s:Int):Bool:=decide (1<=k/\k<=4)&&decide (0<=c/\c<=1099511627776)&&decide (0<=s/\s<=255)
theorem rmay_any(k c s:Int)(v:Value)(w:World):Calls Tryz.prog 110 #[.agg #[.int .i64 k,.int .i64 c,.int .i64 s,v]] w fun e w'=>e= .returned (.bool (rqOk k c s))/\Kp [] w w':=by
 have hbX:=heap_alloc_new w (.cells #[.int .i64 k,.int .i64 c,.int .i64 s,v] 99)
 have HK:As (Kp [] w (w.alloc (.cells #[.int .i64 k,.int .i64 c,.int .i64 s,v] 99))):=⟨(Kp.refl [] w).alloc _⟩
 have x0:=bkc hbX 0 rfl
 have x1:=bkc hbX 1 rfl
 have x2:=bkc hbX 2 rfl
 obtain⟨b0,hb0⟩:∃b,decide (1<=k/\k<=4)=b:=⟨_,rfl⟩
 obtain⟨b1,hb1⟩:∃b,decide (0<=c/\c<=1099511627776)=b:=⟨_,rfl⟩
 obtain⟨b2,hb2⟩:∃b,decide (0<=s/\s<=255)=b:=⟨_,rfl⟩
 have H0:=As.mk (fun wX=>within_any k 1 4 wX)
 have H1:=As.mk (fun wX=>within_any c 0 1099511627776 wX)
 have H2:=As.mk (fun wX=>within_any s 0 255 wX)
 rw[hb0] at H0
 rw[hb1] at H1
 rw[hb2] at H2
 have HF:As (rqOk k c s=(b0&&b1&&b2)):=⟨by rw[rqOk,hb0,hb1,hb2]⟩
 clear hbX hb0 hb1 hb2
 go_enter Tryz.func110,Tryz.ntmps110
 cases b0<;>cases b1<;>cases b2
 all_goals go_wp2_with (first
  |(go_at_call 116;refine(H0.out _).mono ?_;rintro e w1 ⟨rfl,rfl⟩;clear H0)
  |(go_at_call 116;refine(H1.out _).mono ?_;rintro e w2 ⟨rfl,rfl⟩;clear H1)
  |(go_at_call 116;refine(H2.out _).mono ?_;rintro e w3 ⟨rfl,rfl⟩;clear H2))
 all_goals go_ret
 all_goals exact⟨ret_bool (by rw[HF.out];rfl),HK.out⟩
def EncPost(k c s:Int)(xs:List Int)(w:World)(e:Ending)(w':World):Prop:=
 (rqOk k c s=false/\e= .returned (.tuple #[.slice none 0 0,.int .i64 1])/\Kp [] w w')\/(rqOk k c s=true/\FEnc (pay 113 [k,c,s] xs) w e w')
theorem encode_any(k c s:Int)(A:Option Addr)(n cp:Nat)(xs:List Int)(w:World)(hn:xs.length=n)(hr:Rd w A (iv .u8 xs))(hc:n<=cp)(hnil:A=none->cp=0)(hw:Wf xs)(hn9:n<=8192):
 Calls Tryz.prog 76 #[.agg #[.int .i64 k,.int .i64 c,.int .i64 s,.slice A n cp]] w (EncPost k c s xs w):=by
 have hbX:=heap_alloc_new w (.cells #[.int .i64 k,.int .i64 c,.int .i64 s,.slice A n cp] 99)
 obtain⟨w1,hw1⟩:∃w1,w.alloc (.cells #[.int .i64 k,.int .i64 c,.int .i64 s,.slice A n cp] 99)=w1:=⟨_,rfl⟩
 rw[hw1] at hbX
 have HBX:=As.mk hbX
 have HK1:As (Kp [] w w1):=⟨by rw[<-hw1];exact(Kp.refl [] w).alloc _⟩
 have HMY:=As.mk (rmay_any k c s (.slice A n cp) w1)
 obtain⟨ok,hok⟩:∃b,rqOk k c s=b:=⟨_,rfl⟩
 rw[hok] at HMY
 have HOK:=As.mk hok
 obtain⟨p,hp⟩:∃p,pay 113 [k,c,s] xs=p:=⟨_,rfl⟩
 have HP:=As.mk hp
 obtain⟨L,hL⟩:∃L,p.length=L:=⟨_,rfl⟩
 have HL:=As.mk hL
 have HFR:As (∀w2,Kp [] w w2->Calls Tryz.prog 111 #[.int .u8 113,.slice A n cp,.slice (some ⟨w2.heap.size,0,none⟩) 3 3] (w2.alloc (.cells #[.int .i64 k,.int .i64 c,.int .i64 s] 3)) (fun e w'=>∃A c,e= .returned (.tuple #[.slice A (L+12) c,.int .i64 0])/\As (FEnc p w (.returned (.tuple #[.slice A (L+12) c,.int .i64 0])) w'))):=⟨fun w2 k2=>by
  have kA:Kp [] w2 (w2.alloc (.cells #[.int .i64 k,.int .i64 c,.int .i64 s] 3)):=(Kp.refl [] w2).alloc _
  refine(framed_any 113 A n cp xs (some ⟨w2.heap.size,0,none⟩) 3 3 [k,c,s] _ (by omega) hn ((k2.trans kA (by simp)).rd_new hr (by simp)) hc hnil hw rfl (rd_new w2 _ _) (by omega) (by omega)).mono ?_
  rw[hp]
  rintro e w' ⟨A,c,rfl,k3,j,r2,h3,h4,h5⟩
  rw[hL] at j h3⊢
  have kB:=k2.trans kA (by simp)
  refine⟨A,c,rfl,⟨A,c, ?_,kB.trans k3 (by simp), ?_,r2, ?_,h4,h5⟩⟩
  ·rw[hL]
  ·rw[hL];exact j.lower kB.size
  ·rw[hL];exact h3⟩
 have x0:=bkc hbX 0 rfl
 have x1:=bkc hbX 1 rfl
 have x2:=bkc hbX 2 rfl
 have x3:=bkc hbX 3 rfl
 unfold EncPost
 rw[hp,hok]
 clear hbX hn hr hw hok hp hL
 go_enter Tryz.func76,Tryz.ntmps76
 go_upto_region 1 with fail
 clear hw1
 cases ok
 ·go_wp2_with (go_at_call 110;refine HMY.out.mono ?_;rintro e w2 ⟨rfl,k2⟩;have HK2:As (Kp [] w w2):=⟨HK1.out.trans k2 (by simp)⟩;clear k2 HMY)
  go_ret2
  exact⟨rfl,HK2.out⟩
 ·go_wp2_with (first
   |(go_at_call 110;refine HMY.out.mono ?_;rintro e w2 ⟨rfl,k2⟩;have HK2:As (Kp [] w w2):=⟨HK1.out.trans k2 (by simp)⟩;have y0:=k2.cell x0 (by simp);have y1:=k2.cell x1 (by simp);have y2:=k2.cell x2 (by simp);have y3:=k2.cell x3 (by simp);have HF2:=As.mk (HFR.out w2 HK2.out);clear k2 HMY HFR)
   |(go_at_call 111;refine HF2.out.mono ?_;rintro e w3 ⟨A3,c3,rfl,HE⟩;clear HF2))
  go_ret2
  exact HE.out
end Go.Proofs.YtdiljpdohmeceaaGreat.wir
namespace Go.Proofs.YtdiljpdohmeceaaGreat.co
open Go.RowKit H O opk frame
def SomeU(v:Value):Prop:=∃t:Int,v= .int .u64 t
theorem SomeU.mk(t:Int):SomeU (.int .u64 t):=⟨t,rfl⟩
theorem hash_any(key:ByteArray)(w:World)(hz:key.size<=140737488351232):Calls Tryz.prog 109 #[.string key] w fun e w'=>∃x:Int,e= .returned (.int .u64 x)/\Kp [] w w':=by
 obtain⟨m,hkm⟩:∃m,key.size=m:=⟨_,rfl⟩
 have hcv:=Lib.run_convert_string_bytes (P:=Tryz.prog) w 9 24 5 key Tryz.underlying9 Tryz.underlying24 Tryz.underlying5
 rw[hkm] at hcv hz
 have hrk:=rds_bytes (S:=[]) w 5 key (by simp)
 have HK:=As.mk (kp_bytes (Kp.refl [] w) 5 key)
 obtain⟨w1,hw1⟩:∃w1,Lib.bytesWorld w 5 key=w1:=⟨_,rfl⟩
 rw[hw1] at hrk HK hcv
 have HR:=As.mk hrk
 have HM:=As.mk (show(kb key).length=m by rw[kb_len,hkm])
 clear hrk hw1 hkm
 go_enter Tryz.func109,Tryz.ntmps109
 go_wp2
 go_loopw [3,9] (fun h i wr=>SomeU h/\∃k:Nat,i= .int .i64 (k:Int)/\k<=m/\wr=w1) (fun _ i _=>m-(intOf i).toNat)
 case atStart=>exact⟨SomeU.mk _,0,rfl,by omega,rfl⟩
 case round=>
  obtain⟨⟨h,rfl⟩,k,rfl,hk,rfl⟩:=hrel
  by_cases hlt:k<m
  ·obtain⟨a,ha,d0⟩:=HR.out.rd.int k (by rw[HM.out];exact hlt)
   cases ha
   rw[Addr.add_lit,Nat.zero_add] at d0
   have i0:(0:Int)<=(k:Int):=by omega
   have i1:(k:Int)<(m:Int):=by omega
   go_wp2
   go_roundw
   case rel=>exact⟨SomeU.mk _,k+1,by go_num,by omega,by first|rfl|trivial⟩
   case measure=>simp[intOf];omega
  ·go_wp2
   go_ret
   exact⟨_,rfl,HK.out⟩
theorem shard_any(key:ByteArray)(n:Int)(w:World)(hz:key.size<=140737488351232)(hn:n=2):Calls Tryz.prog 75 #[.string key,.int .i64 n] w fun e w'=>∃x:Int,e= .returned (.tuple #[.int .i64 x,.int .i64 0])/\Kp [] w w':=by
 subst hn
 have HM:As (∀wX,Calls Tryz.prog 108 #[.int .i64 2] wX fun e w'=>e= .returned (.bool true)/\Kp [] wX w'):=⟨fun wX=>by
  go_enter Tryz.func108,Tryz.ntmps108
  go_wp2
  go_ret
  exact⟨rfl,Kp.refl _ _⟩⟩
 have HH:=As.mk (fun wX=>hash_any key wX hz)
 clear hz
 go_enter Tryz.func75,Tryz.ntmps75
 go_wp2_with (first
  |(go_at_call 108;refine(HM.out _).mono ?_;rintro e w1 ⟨rfl,k1⟩;have HK1:=As.mk k1;clear k1 HM)
  |(go_at_call 109;refine(HH.out w1).mono ?_;rintro e w2 ⟨x,rfl,k2⟩;have HK2:As (Kp [] w w2):=⟨HK1.out.trans k2 (by simp)⟩;clear k2 HH))
 go_ret2
 exact⟨_,rfl,HK2.out⟩
theorem int_at{w:World}{A:Option Addr}{xs:List Int}(h:Rd w A (iv .i64 xs))(i:Nat)(hi:i<xs.length):∃b o,A=some ⟨b,o,none⟩/\w.cell? ⟨b,o+i,none⟩=some (.int .i64 xs[i]):=by
 obtain⟨a,ha,c0⟩:=h.int i hi
 obtain⟨z,hz,cz⟩:=h.int 0 (by omega)
 rw[ha] at hz
 cases hz
 obtain⟨b,o,s⟩:=a
 obtain rfl:s=none:=by simpa [Addr.add] using World.cell?_spot cz
 rw[Go.WideShapes.add_plain] at c0
 exact⟨b,o,ha,c0⟩
def Grp(xs:List Int):Prop:=(1<=xs.length/\xs.length<=7)/\∀i (h:i<xs.length),(0<=xs[i]/\xs[i]<7)/\(∀h0:0<i,xs[i-1]'(by omega)<xs[i])
theorem group_good(A:Option Addr)(n c:Nat)(xs:List Int)(w:World)(hn:xs.length=n)(hr:Rd w A (iv .i64 xs))(hg:Grp xs):Calls Tryz.prog 71 #[.slice A n c] w fun e w'=>e= .returned (.bool true)/\Kp [] w w':=by
 obtain⟨⟨h1,h7⟩,hG⟩:=hg
 rw[hn] at h1 h7
 have HR:=As.mk hr
 have HN:=As.mk hn
 have HG:=As.mk hG
 clear hr hn hG
 go_enter Tryz.func71,Tryz.ntmps71
 go_wp2
 go_loopw [7] (fun i wr=>∃k:Nat,i= .int .i64 (k:Int)/\k<=n/\As (Kp [] w wr)) (fun i _=>n-(intOf i).toNat)
 case atStart=>exact⟨0,rfl,by omega,⟨Kp.refl _ _⟩⟩
 case round=>
  obtain⟨k,rfl,hk,HK⟩:=hrel
  by_cases hlt:k<n
  ·have hk':k<xs.length:=by rw[HN.out];exact hlt
   obtain⟨⟨g0,g1⟩,g2⟩:=HG.out k hk'
   obtain⟨b,o,rfl,d0⟩:=int_at ((HK.out.rd_new HR.out (by simp))) k hk'
   obtain⟨y,hy⟩:∃y,xs[k]=y:=⟨_,rfl⟩
   rw[hy] at g0 g1 d0
   have i0:(0:Int)<=(k:Int):=by omega
   have i1:(k:Int)<(n:Int):=by omega
   by_cases hk0:k=0
   ·subst hk0
    rw[Nat.add_zero] at d0
    clear g2 hy
    go_wp2
    go_roundw
    case rel=>exact⟨1,by go_num,by omega,HK⟩
    case measure=>simp[intOf];omega
   ·have g3:=g2 (by omega)
    obtain⟨_,_,e,d1⟩:=int_at ((HK.out.rd_new HR.out (by simp))) (k-1) (by omega)
    cases e
    obtain⟨z,hz⟩:∃z,xs[k-1]=z:=⟨_,rfl⟩
    rw[hy] at g3
    rw[hz] at g3 d1
    have i2:(0:Int)<(k:Int):=by omega
    have i3:IntKind.i64.wrap ((k:Int)-1)=((k-1:Nat):Int):=by rw[IntKind.wrap_i64];omega
    have i4:((k-1:Nat):Int)<(n:Int):=by omega
    have i5:¬y<=z:=by omega
    clear g2 hy hz
    go_wp2
    go_roundw
    case rel=>exact⟨k+1,by go_num,by omega,HK⟩
    case measure=>simp[intOf];omega
  ·have i6:(n:Int)<=7:=by omega
   go_wp2
   go_ret
   exact⟨rfl,HK.out⟩
end Go.Proofs.YtdiljpdohmeceaaGreat.co
namespace Go.Proofs.YtdiljpdohmeceaaGreat.co
open Go.RowKit H O opk frame wir
structure Msg where
 frm:Int
 dst:Int
 data:List Int
structure Res where
 job:Nat
 err:Int
 was:Bool
 has:Bool
 text:List Int
 ms:List (ByteArray×Int)
structure Job where
 kind:Nat
 key:ByteArray
 text:List Int
structure Ask where
 shard:Nat
 ctx:Nat
 frame:List Int
 tried:Nat
 waited:Nat
 hinted:Bool
 answered:Bool
 ms:List (ByteArray×Int)
structure Cfg where
 id:Nat
 pat:Nat
 tries:Nat
 shards:List (List Int)
structure Cs where
 whom:List Nat
 jobs:List Job
 ended:Nat
 ctx:Nat
 asks:List Ask
 done:List Res
def hashStep(h c:Int):Int:=IntKind.u64.wrap (bits .xor .u64 h c*1099511628211)
def hashL(l:List Int):Int:=l.foldl hashStep 14695981039346656037
theorem hashL_nil:hashL []=14695981039346656037:=rfl
theorem hashL_snoc(l:List Int)(c:Int):hashL (l++[c])=hashStep (hashL l) c:=by simp[hashL]
theorem hashL_step(l:List Int)(k:Nat)(h:k<l.length):hashL (l.take (k+1))=hashStep (hashL (l.take k)) l[k]:=by
 rw[take_succ' l k h,hashL_snoc]
theorem hashStep_pos(h c:Int):0<=hashStep h c/\hashStep h c<18446744073709551616:=by
 unfold hashStep
 rw[IntKind.wrap_u64]
 omega
theorem hashL_pos(l:List Int):0<=hashL l/\hashL l<18446744073709551616:=by
 rcases List.eq_nil_or_concat l with rfl|⟨l',c,rfl⟩
 ·rw[hashL_nil];omega
 ·rw[List.concat_eq_append,hashL_snoc];exact hashStep_pos _ _
def shardOf(key:List Int)(n:Nat):Nat:=(hashL key%(n:Int)).toNat
theorem shardOf_lt(key:List Int){n:Nat}(h:0<n):shardOf key n<n:=by
 unfold shardOf
 have:=Int.emod_lt_of_pos (hashL key) (show(0:Int)<n by omega)
 have:=Int.emod_nonneg (hashL key) (show(n:Int)≠0 by omega)
 omega
def wkind(j:Job):Int:=if j.kind=1 then 1 else if j.kind=2 then 1 else if j.kind=3 then 3 else 2
def jdata(cf:Cfg)(num:Nat)(j:Job):List Int:=
 if j.kind=1 then opBytes 1 cf.id ((num:Int)+1) j.key j.text else if j.kind=2 then opBytes 2 cf.id ((num:Int)+1) j.key [] else if j.kind=3 then kb j.key else j.text
def frameOf(cf:Cfg)(num:Nat)(j:Job)(ctx shard:Nat):List Int:=fEnc (pay 113 [wkind j,(ctx:Int),(shard:Int)] (jdata cf num j))
def jshards(cf:Cfg)(j:Job):List Nat:=if j.kind=4 then List.range cf.shards.length else[shardOf (kb j.key) cf.shards.length]
def newAsk(cf:Cfg)(num:Nat)(j:Job)(t ctx shard:Nat):Ask:=⟨shard,ctx,frameOf cf num j ctx shard,t,0,false,false,[]⟩
def mkAsks(cf:Cfg)(num:Nat)(j:Job)(t:Nat):Nat->List Nat->List Ask
 |_,[]=>[]
 |ctx,s::l=>newAsk cf num j t (ctx+1) s::mkAsks cf num j t (ctx+1) l
theorem mkAsks_len(cf:Cfg)(num:Nat)(j:Job)(t ctx:Nat)(l:List Nat):(mkAsks cf num j t ctx l).length=l.length:=by
 induction l generalizing ctx with
 |nil=>rfl
 |cons s l ih=>simp[mkAsks,ih]
theorem mkAsks_snoc(cf:Cfg)(num:Nat)(j:Job)(t ctx:Nat)(l:List Nat)(s:Nat):mkAsks cf num j t ctx (l++[s])=mkAsks cf num j t ctx l++[newAsk cf num j t (ctx+l.length+1) s]:=by
 induction l generalizing ctx with
 |nil=>rfl
 |cons x l ih=>
  simp only[List.cons_append,mkAsks,ih,List.length_cons]
  rw[show ctx+1+l.length+1=ctx+(l.length+1)+1 by omega]
theorem mkAsks_get(cf:Cfg)(num:Nat)(j:Job)(t:Nat):∀(ctx:Nat) (l:List Nat) (i:Nat) (h:i<l.length),(mkAsks cf num j t ctx l)[i]?=some (newAsk cf num j t (ctx+i+1) l[i])
 |ctx,s::l,0,_=>rfl
 |ctx,s::l,i+1,h=>by
  simp only[mkAsks,List.getElem?_cons_succ,List.getElem_cons_succ]
  rw[mkAsks_get cf num j t (ctx+1) l i (by simpa using h),show ctx+1+i+1=ctx+(i+1)+1 by omega]
def dest(cf:Cfg)(whom:List Nat)(s:Nat):Int:=(cf.shards.getD s []).getD (whom.getD s 0) 0
def msgOf(cf:Cfg)(whom:List Nat)(a:Ask):Msg:=⟨cf.id,dest cf whom a.shard,a.frame⟩
def nextW(cf:Cfg)(whom:List Nat)(s:Nat):List Nat:=whom.set s ((whom.getD s 0+1)%(cf.shards.getD s []).length)
def endJob(s:Cs)(r:Res):Cs:={s with jobs:=s.jobs.tail,ended:=s.ended+1,asks:=[],done:=s.done++[r]}
def endErr(s:Cs)(e:Int):Cs:=endJob s ⟨s.ended,e,false,false,[],[]⟩
def tkGo(cf:Cfg):Nat->Nat->List Nat->List Ask->List Msg->List Nat×List Ask×List Msg×Bool
 |0,_,wh,az,out=>(wh,az,out,false)
 |f+1,k,wh,az,out=>
  match az[k]? with
  |none=>(wh,az,out,false)
  |some a=>
   if a.answered=true then tkGo cf f (k+1) wh az out
   else if a.waited+1<cf.pat then tkGo cf f (k+1) wh (az.set k {a with waited:=a.waited+1}) out
   else if cf.tries<=a.tried then(wh,az.set k {a with waited:=a.waited+1},out,true)
   else tkGo cf f (k+1) (nextW cf wh a.shard) (az.set k {a with waited:=0,tried:=a.tried+1,hinted:=false}) (out++[msgOf cf (nextW cf wh a.shard) a])
def tick(cf:Cfg)(s:Cs):Cs×List Msg:=
 match s.jobs with
 |[]=>(s,[])
 |j::_=>
  if s.asks=[] then
   ({s with asks:=mkAsks cf s.ended j 1 s.ctx (jshards cf j),ctx:=s.ctx+(jshards cf j).length},(mkAsks cf s.ended j 1 s.ctx (jshards cf j)).map (msgOf cf s.whom))
  else
   match tkGo cf s.asks.length 0 s.whom s.asks [] with
   |(wh,az,out,true)=>(endErr {s with whom:=wh,asks:=az} 14,out)
   |(wh,az,out,false)=>({s with whom:=wh,asks:=az},out)
def gives(s:Cs)(j:Job):Cs:={s with jobs:=s.jobs++[j]}
def nextJ(s:Cs):Nat:=s.ended+s.jobs.length
structure JobOk(j:Job):Prop where
 kind:1<=j.kind/\j.kind<=4
 key:j.kind≠4->1<=j.key.size/\j.key.size<=64
 text:j.text.length<=4096/\Wf j.text
structure CfgOk(cf:Cfg):Prop where
 id:7<=cf.id/\cf.id<=255
 pat:1<=cf.pat/\cf.pat<=1000
 tries:1<=cf.tries/\cf.tries<=1000
 len:1<=cf.shards.length/\cf.shards.length<=8
 grp:∀x∈cf.shards,Grp x
structure AskOk(cf:Cfg)(ctx:Nat)(a:Ask):Prop where
 shard:a.shard<cf.shards.length
 ctx:1<=a.ctx/\a.ctx<=ctx
 frame:a.frame.length<=10000/\Wf a.frame
 tried:a.tried<=cf.tries
 waited:a.waited<=1001
structure CsOk(cf:Cfg)(s:Cs):Prop where
 cfg:CfgOk cf
 wlen:s.whom.length=cf.shards.length
 whom:∀i (h:i<s.whom.length) (h2:i<cf.shards.length),s.whom[i]<cf.shards[i].length
 jobs:∀j∈s.jobs,JobOk j
 asks:∀a∈s.asks,AskOk cf s.ctx a
 none:s.jobs=[]->s.asks=[]
 few:s.asks.length<=8
theorem CsOk.ask{cf:Cfg}{s:Cs}(h:CsOk cf s)(i:Nat){a:Ask}(ha:AskOk cf s.ctx a):CsOk cf {s with asks:=s.asks.set i a}:=by
 refine⟨h.cfg,h.wlen,h.whom,h.jobs,fun x hx=> ?_,fun e=> ?_,by show(s.asks.set i a).length<=8;rw[List.length_set];exact h.few⟩
 ·rcases List.mem_or_eq_of_mem_set hx with e|e
  ·exact h.asks x e
  ·rw[e];exact ha
 ·have:=h.none e
  show s.asks.set i a=[]
  rw[this]
  rfl
end Go.Proofs.YtdiljpdohmeceaaGreat.co
