/- Words and walks that this claim rests on: proved lemmas alone. -/
import Derived.Test.YtdiljpdohmeceaaGreatZ0
import Derived.Lib.SlBytesConst
import Derived.ChangeShapes
import Derived.Deep.RegionHeld3
set_option maxHeartbeats 16000000
set_option maxRecDepth 100000
namespace Go.Proofs.YtdiljpdohmeceaaGreat.opk
open Go.RowKit H O
theorem rd_new1{w:World}(vs:List Value)(t:TypeId):Rd (w.alloc (.cells vs.toArray t)) (some ⟨w.heap.size,0,none⟩) vs:=by
 intro j v hv
 refine⟨_,rfl, ?_⟩
 rw[Addr.add_lit,World.cell?_alloc_new]
 simpa using hv
theorem rs_two'{S:List Nat}{w:World}{A3 A4:Option Addr}{n3 c3 n4 c4:Nat}{xs ys:List Int}(h3:xs.length=n3)(h4:ys.length=n4)(r3:RdS S w A3 (iv .u8 xs))(r4:RdS S w A4 (iv .u8 ys))(l3:n3<=c3)(l4:n4<=c4)(e3:A3=none->c3=0)(e4:A4=none->c4=0)(u:TypeId)
 (hS:∀x∈S,x<w.heap.size):
 Rs S (w.alloc (.cells #[.slice A3 n3 c3,.slice A4 n4 c4] u)) (some ⟨w.heap.size,0,none⟩) [xs,ys]:=by
 subst h3 h4
 intro j hj
 have k:=(Kp.refl [] w).alloc (.cells #[.slice A3 xs.length c3,.slice A4 ys.length c4] u)
 have hc:=World.cell?_alloc_new w #[.slice A3 xs.length c3,.slice A4 ys.length c4] u j
 match j,hj,hc with
 |0,hj,hc=>exact⟨_,A3,c3,rfl,fun hm=>by have:=hS _ hm;simp at this,by rw[add_zero'];exact hc,l3,e3,r3.kp k (by simp)⟩
 |1,hj,hc=>exact⟨_,A4,c4,rfl,fun hm=>by have:=hS _ hm;simp at this,by rw[Addr.add_lit];exact hc,l4,e4,r4.kp k (by simp)⟩
def EncPost(k cl sq:Int)(key:ByteArray)(text:List Int)(w:World)(e:Ending)(w':World):Prop:=
 ∃v,e= .returned (.tuple #[v,.int .i64 (opErr k cl sq key.size text.length)])/\Own 5 .u8 w' w.heap.size v (if opErr k cl sq key.size text.length=0 then opBytes k cl sq key text else[])/\Kp [] w w'
theorem enc_none{k cl sq:Int}{key:ByteArray}{text:List Int}{w w':World}{z:Int}(hz:z=opErr k cl sq key.size text.length)(h0:z≠0)(hk:Kp [] w w'):EncPost k cl sq key text w (.returned (.tuple #[.slice none 0 0,.int .i64 z])) w':=by
 subst hz
 refine⟨_,rfl, ?_,hk⟩
 rw[if_neg h0]
 exact Own.nil _ _ _ _
def OpAt(w:World)(b:Nat)(k cl sq:Int)(key:ByteArray)(A:Option Addr)(n c:Nat):Prop:=
 w.heap[b]?=some (.cells #[.int .i64 k,.int .i64 cl,.int .i64 sq,.string key,.slice A n c] 46)
theorem OpAt.cells{w:World}{b:Nat}{k cl sq:Int}{key:ByteArray}{A:Option Addr}{n c:Nat}(h:OpAt w b k cl sq key A n c):
 w.cell? ⟨b,0,none⟩=some (.int .i64 k)/\w.cell? ⟨b,1,none⟩=some (.int .i64 cl)/\w.cell? ⟨b,2,none⟩=some (.int .i64 sq)/\w.cell? ⟨b,3,none⟩=some (.string key)/\w.cell? ⟨b,4,none⟩=some (.slice A n c):=
 ⟨bkc h 0 rfl,bkc h 1 rfl,bkc h 2 rfl,bkc h 3 rfl,bkc h 4 rfl⟩
theorem OpAt.new(w:World)(k cl sq:Int)(key:ByteArray)(A:Option Addr)(n c:Nat):
 OpAt (w.alloc (.cells #[.int .i64 k,.int .i64 cl,.int .i64 sq,.string key,.slice A n c] 46)) w.heap.size k cl sq key A n c:=heap_alloc_new w _
theorem OpAt.kp{S:List Nat}{w w1:World}{b:Nat}{k cl sq:Int}{key:ByteArray}{A:Option Addr}{n c:Nat}(h:OpAt w b k cl sq key A n c)(hk:Kp S w w1)(hb:b∉S):OpAt w1 b k cl sq key A n c:=hk.blk h hb
theorem rds_bytes{S:List Nat}(w:World)(e:TypeId)(s:ByteArray)(hS:∀x∈S,x<w.heap.size):RdS S (Lib.bytesWorld w e s) (some ⟨w.heap.size,0,none⟩) (iv .u8 (kb s)):=by
 intro j v hv
 obtain⟨a,ha,hc⟩:=rd_bytes w e s j v hv
 cases ha
 exact⟨_,rfl,fun hm=>by have:=hS _ hm;simp at this,hc⟩
theorem rows2_len(a b:List Int):(rows [a,b]).length<=18+a.length+b.length:=by
 have:=rows_len [a,b]
 simp only[List.length_cons,List.length_nil,List.flatten_cons,List.flatten_nil,List.length_append] at this
 omega
theorem enc_done{k cl sq:Int}{key:ByteArray}{text:List Int}{w w':World}{v:Value}(he:opErr k cl sq key.size text.length=0)(ho:Own 5 .u8 w' w.heap.size v (nums [k,cl,sq]++rows [kb key,text]))(hk:Kp [] w w'):
 EncPost k cl sq key text w (.returned (.tuple #[v,.int .i64 0])) w':=by
 refine⟨v,by rw[he], ?_,hk⟩
 rw[he,if_pos rfl]
 exact ho
theorem nums3_len(a b c:Int):(nums [a,b,c]).length<=1000000:=by
 have:=nums_len [a,b,c]
 simp only[List.length_cons,List.length_nil] at this
 omega
theorem enc_nums(w:World)(k cl sq:Int):Calls Tryz.prog 105 #[.pointer (some ⟨w.heap.size,0,none⟩),.slice (some ⟨w.heap.size+1,0,none⟩) 3 3]
 ((w.alloc (.cells #[.slice none 0 0] 177)).alloc (.cells #[.int .i64 k,.int .i64 cl,.int .i64 sq] 3))
 (fun e w'=>e= .returned (.tuple #[])/\∃g,writer.Wr w' w.heap.size g (nums [k,cl,sq])/\(∀x,g=some x->w.heap.size<x)/\Kp [] w w'/\w.heap.size<w'.heap.size):=by
 have h:=writer.nums_any w.heap.size none [] (some ⟨w.heap.size+1,0,none⟩) 3 3 [k,cl,sq] ((w.alloc (.cells #[.slice none 0 0] 177)).alloc (.cells #[.int .i64 k,.int .i64 cl,.int .i64 sq] 3))
  ((writer.Wr.new w).kp ((Kp.refl [] _).alloc _) (by simp) (by simp)) rfl (by
    have:=RdS.lit (S:=[w.heap.size]) (w.alloc (.cells #[.slice none 0 0] 177)) [.int .i64 k,.int .i64 cl,.int .i64 sq] 3 (by simp)
    simpa [iv] using this) (by decide)
 refine h.mono ?_
 rintro e w' ⟨rfl,g,W1,A1,K1⟩
 refine⟨rfl,g,by simpa using W1, ?_,(((Kp.refl [] w).alloc _).alloc _).trans K1 (by simp), ?_⟩
 ·intro x hx
  rcases A1 with h|⟨j,h,hj⟩
  ·rw[h] at hx;cases hx
  ·rw[h] at hx;have:=Option.some.inj hx;simp at hj;omega
 ·have:=K1.size
  simp at this
  omega
theorem enc_rows{w w3:World}{b:Nat}{g:Option Nat}{ys:List Int}(key:ByteArray)(m:Nat)(hkm:key.size=m)(A:Option Addr)(n c:Nat)(text:List Int)(hn:text.length=n)(hr:Rd w A (iv .u8 text))(hc:n<=c)(hnil:A=none->c=0)
 (W3:writer.Wr w3 b g ys) (hb:w.heap.size<=b) (hg:∀x,g=some x->w.heap.size<=x) (K3:Kp [] w w3) (hm:m<=1000000) (hn4:n<=1000000) (hy:ys.length<=1000000):
 Calls Tryz.prog 106 #[.pointer (some ⟨b,0,none⟩),.slice (some ⟨w3.heap.size+1,0,none⟩) 2 2]
  ((Lib.bytesWorld w3 5 key).alloc (.cells #[.slice (some ⟨w3.heap.size,0,none⟩) m (grownCap w3 m 0 5),.slice A n c] 24))
  (fun e w'=>e= .returned (.tuple #[])/\(Calls Tryz.prog 107 #[.pointer (some ⟨b,0,none⟩)] w' fun e w''=>∃v,e= .returned v/\Own 5 .u8 w'' w.heap.size v (ys++rows [kb key,text])/\Kp [] w w'')):=by
 have hlt:=W3.lt
 have hs:=K3.size
 have kB:=kp_bytes (Kp.refl [] w3) 5 key
 have hsz:=Lib.bytesWorld_size w3 5 key
 obtain⟨w4,hw4⟩:∃w4,w4=Lib.bytesWorld w3 5 key:=⟨_,rfl⟩
 have hS:∀x∈b::g.toList,w.heap.size<=x/\x<w3.heap.size:=by
  intro x hx
  rcases List.mem_cons.1 hx with rfl|hx
  ·exact⟨hb,hlt.1⟩
  ·exact⟨hg x (by simpa using hx),hlt.2 x (by simpa using hx)⟩
 have hrk:=rds_bytes (S:=b::g.toList) w3 5 key (fun x hx=>(hS x hx).2)
 rw[<-hw4] at kB hsz hrk⊢
 have hrs:=rs_two' (S:=b::g.toList) (w:=w4) (n3:=m) (c3:=grownCap w3 m 0 5) (c4:=c) (by rw[kb_len,hkm]) hn hrk (RdS.new hr (K3.trans kB (by simp)) (fun x hx=>(hS x hx).1)) (grownCap_ge _ _ _ _) hc (by simp) hnil 24 (fun x hx=>by have:=(hS x hx).2;omega)
 rw[hsz] at hrs
 have h:=writer.bytes_any b g ys (some ⟨w3.heap.size+1,0,none⟩) 2 2 [kb key,text] _ ((W3.kp kB (by simp) (by simp)).kp ((Kp.refl [] w4).alloc (.cells #[.slice (some ⟨w3.heap.size,0,none⟩) m (grownCap w3 m 0 5),.slice A n c] 24)) (by simp) (by simp)) rfl hrs (by simp[kb_len,hkm,hn];omega)
 refine h.mono ?_
 rintro e w5 ⟨rfl,g5,W5,A5,K5⟩
 refine⟨rfl, ?_⟩
 have hl:=rows2_len (kb key) text
 rw[kb_len] at hl
 have K5':Kp [] w w5:=((K3.trans kB (by simp)).alloc _).trans K5 (fun x hx=> .inr (hS x hx).1)
 refine(writer.out_any b g5 _ w5 W5 (by rw[List.length_append];omega)).mono ?_
 rintro e w6 ⟨v,rfl,O6,K6⟩
 exact⟨v,rfl,O6.lower K5'.size,K5'.trans K6 (by simp)⟩
theorem encode_ok(k cl sq:Int)(key:ByteArray)(m:Nat)(hkm:key.size=m)(A:Option Addr)(n c:Nat)(text:List Int)(w:World)(hn:text.length=n)(hr:Rd w A (iv .u8 text))(hc:n<=c)(hnil:A=none->c=0)
 (hk:k=1\/(k=2/\¬0<n)) (hb2:(within1 cl&&within1 sq)=true) (hb3:1<=m/\m<=64) (hb5:n<=4096) (he:opErr k cl sq m n=0):
 Calls Tryz.prog 74 #[.agg #[.int .i64 k,.int .i64 cl,.int .i64 sq,.string key,.slice A n c]] w (EncPost k cl sq key text w):=by
 have HR:=As.mk hr
 have HN:=As.mk hn
 have HC:=As.mk hc
 have HNL:=As.mk hnil
 have HE:As (opErr k cl sq key.size text.length=0):=⟨by rw[hkm,hn];exact he⟩
 have HKM:=As.mk hkm
 have HM64:=As.mk hb3.2
 have HW:=As.mk (within_any (some ⟨w.heap.size+1,0,none⟩) 2 2 [cl,sq] ((w.alloc (.cells #[.int .i64 k,.int .i64 cl,.int .i64 sq,.string key,.slice A n c] 46)).alloc (.cells #[.int .i64 cl,.int .i64 sq] 3)) rfl
  (by have:=rd_new1 (w:=w.alloc (.cells #[.int .i64 k,.int .i64 cl,.int .i64 sq,.string key,.slice A n c] 46)) (iv .i64 [cl,sq]) 3;simpa [iv] using this) (by decide))
 have HBX0:As (∀w1,w1=(w.alloc (.cells #[.int .i64 k,.int .i64 cl,.int .i64 sq,.string key,.slice A n c] 46)).alloc (.cells #[.int .i64 cl,.int .i64 sq] 3)->
  OpAt w1 w.heap.size k cl sq key A n c/\Kp [] w w1/\w.heap.size<w1.heap.size):=
  ⟨by rintro w1 rfl;exact⟨blk_alloc (heap_alloc_new w _) _,((Kp.refl [] w).alloc _).alloc _,by simp;omega⟩⟩
 have HI:=As.mk (isKey_any key)
 have HB2:As ([cl,sq].all within1=true):=⟨by simpa using hb2⟩
 have HB3:As (decide (1<=key.size/\key.size<=64)=true):=⟨by rw[decide_eq_true (by omega)]⟩
 rw[HB2.out] at HW
 rw[HB3.out] at HI
 have HCV:As (∀w,(convert 9 24 (.string key)).run Tryz.prog w= .ok (.slice (some ⟨w.heap.size,0,none⟩) m (grownCap w m 0 5)) (Lib.bytesWorld w 5 key)):=⟨fun w=>by
  rw[<-hkm]
  exact Lib.run_convert_string_bytes w 9 24 5 key Tryz.underlying9 Tryz.underlying24 Tryz.underlying5⟩
 clear hr hn hc hnil he hkm hb2 hb3 HB2 HB3
 rcases hk with rfl|⟨rfl,hn0⟩
 all_goals
  go_enter Tryz.func74,Tryz.ntmps74
  go_wp2_with (first
   |(go_at_call 103;(refine HW.out.mono ?_;rintro e w1 ⟨rfl,hw1⟩;obtain⟨hbx,hk1,hs1⟩:=HBX0.out w1 hw1;have HBX:=As.mk hbx;have HK1:=As.mk hk1;have HS1:=As.mk hs1;have hlt1:=hs1;obtain⟨d0,d1,d2,d3,d4⟩:=hbx.cells;clear HW HBX0 hw1 hbx hk1 hs1))
   |(go_at_call 104;refine(HI.out _).mono ?_;rintro e w2 ⟨rfl,rfl⟩)
   |(go_at_call 105;refine(enc_nums _ _ _ _).mono ?_;rintro e w3 ⟨rfl,g3,W3,G3,K3,s3⟩;obtain⟨e0,e1,e2,e3,e4⟩:=(HBX.out.kp K3 (by simp)).cells;have hsz4:=Lib.bytesWorld_size w3 5 key;have f4:=(Lib.bytesWorld_old w3 5 key ⟨w.heap.size,4,none⟩ (Nat.lt_trans HS1.out s3)).trans e4;have hcv3:=HCV.out w3;have HROW:=As.mk (enc_rows key m HKM.out A n c text HN.out HR.out HC.out HNL.out W3 HK1.out.size (fun x hx=>Nat.le_trans HK1.out.size (Nat.le_of_lt (G3 x hx))) (HK1.out.trans K3 (by simp)) (by have:=HM64.out;omega) (by omega) (nums3_len _ _ _));clear W3 G3 K3 s3 hlt1 d0 d1 d2 d3 d4)
   |(go_at_call 106;refine HROW.out.mono ?_;rintro e w5 ⟨rfl,ho⟩;have HO:=As.mk ho;clear ho HROW)
   |(go_at_call 107;refine HO.out.mono ?_;rintro e w6 ⟨v,rfl,O6,K6⟩;have HO6:=As.mk O6;have HK6:=As.mk K6;clear O6 K6 HO))
  go_ret2
  exact enc_done HE.out HO6.out HK6.out
theorem opErr_ne{k cl sq:Int}{m n:Nat}:opErr k cl sq m n=0↔(k=1\/(k=2/\¬0<n))/\(within1 cl&&within1 sq)=true/\(1<=m/\m<=64)/\n<=4096:=by
 unfold opErr
 cases hb:(within1 cl&&within1 sq)<;>split<;>rename_i h
 ·simp
 ·simp at h
 ·simp only[Bool.true_eq_false,false_or] at h
  constructor
  ·intro h0;cases h0
  ·rintro⟨h1,-,h2,h3⟩;omega
 ·simp only[Bool.true_eq_false,false_or] at h
  split
  ·constructor
   ·intro h0;cases h0
   ·rintro⟨h1,-,h2,h3⟩;omega
  ·constructor
   ·intro _;exact⟨by omega,rfl,by omega,by omega⟩
   ·intro _;rfl
theorem encode_no(k cl sq:Int)(key:ByteArray)(m:Nat)(hkm:key.size=m)(A:Option Addr)(n c:Nat)(text:List Int)(w:World)(hn:text.length=n)(hm:n<=4611686018427387904)(he:opErr k cl sq m n≠0):
 Calls Tryz.prog 74 #[.agg #[.int .i64 k,.int .i64 cl,.int .i64 sq,.string key,.slice A n c]] w (EncPost k cl sq key text w):=by
 have HWX:As (∀b,(within1 cl&&within1 sq)=b->Calls Tryz.prog 103 #[.slice (some ⟨w.heap.size+1,0,none⟩) 2 2] ((w.alloc (.cells #[.int .i64 k,.int .i64 cl,.int .i64 sq,.string key,.slice A n c] 46)).alloc (.cells #[.int .i64 cl,.int .i64 sq] 3))
  fun e w1=>e= .returned (.bool b)/\OpAt w1 w.heap.size k cl sq key A n c/\Kp [] w w1/\w.heap.size<w1.heap.size):=⟨fun b hb=>by
   refine(within_any (some ⟨w.heap.size+1,0,none⟩) 2 2 [cl,sq] ((w.alloc (.cells #[.int .i64 k,.int .i64 cl,.int .i64 sq,.string key,.slice A n c] 46)).alloc (.cells #[.int .i64 cl,.int .i64 sq] 3)) rfl
    (by have:=rd_new1 (w:=w.alloc (.cells #[.int .i64 k,.int .i64 cl,.int .i64 sq,.string key,.slice A n c] 46)) (iv .i64 [cl,sq]) 3;simpa [iv] using this) (by decide)).mono ?_
   rintro e w1 ⟨rfl,rfl⟩
   refine⟨by rw[<-hb];simp,blk_alloc (heap_alloc_new w _) _,((Kp.refl [] w).alloc _).alloc _,by simp;omega⟩⟩
 have HIX:As (∀b,decide (1<=m/\m<=64)=b->∀w,Calls Tryz.prog 104 #[.string key] w fun e w'=>e= .returned (.bool b)/\w'=w):=⟨fun b hb w=>by
  have h:=isKey_any key w
  rwa[hkm,hb] at h⟩
 by_cases h1:k=1\/k=2
 ·cases hw:(within1 cl&&within1 sq) with
  |false=>
   have HE:As (1=opErr k cl sq key.size text.length):=⟨by rw[opErr,if_pos (.inr (.inl hw))]⟩
   have HW:=As.mk (HWX.out false hw)
   clear hw he HWX HIX hn hkm
   rcases h1 with rfl|rfl
   all_goals
    go_enter Tryz.func74,Tryz.ntmps74
    go_wp2_with (go_at_call 103;refine HW.out.mono ?_;rintro e w1 ⟨rfl,hbx,hk1,hs1⟩;have HK1:=As.mk hk1;clear HW hbx hk1 hs1)
    go_ret2
    exact enc_none HE.out (by decide) HK1.out
  |true=>
   have HW:=As.mk (HWX.out true hw)
   cases hb:decide (1<=m/\m<=64) with
   |false=>
    have HE:As (1=opErr k cl sq key.size text.length):=⟨by rw[hkm,opErr,if_pos (.inr (.inr (.inl (of_decide_eq_false hb))))]⟩
    have HI:=As.mk (HIX.out false hb)
    clear hw he HWX HIX hn hkm hb
    rcases h1 with rfl|rfl
    all_goals
     go_enter Tryz.func74,Tryz.ntmps74
     go_wp2_with (first
      |(go_at_call 103;refine HW.out.mono ?_;rintro e w1 ⟨rfl,hbx,hk1,hs1⟩;have HK1:=As.mk hk1;obtain⟨d0,d1,d2,d3,d4⟩:=hbx.cells;clear HW hbx hk1 hs1)
      |(go_at_call 104;refine(HI.out _).mono ?_;rintro e w2 ⟨rfl,rfl⟩))
     go_ret2
     exact enc_none HE.out (by decide) HK1.out
   |true=>
    have HI:=As.mk (HIX.out true hb)
    by_cases h2:k=2/\0<n
    ·have HE:As (1=opErr k cl sq key.size text.length):=⟨by rw[hkm,hn,opErr,if_pos (.inr (.inr (.inr h2)))]⟩
     clear hw he HWX HIX hn hkm hb h1
     obtain⟨rfl,hn0⟩:=h2
     go_enter Tryz.func74,Tryz.ntmps74
     go_wp2_with (first
      |(go_at_call 103;refine HW.out.mono ?_;rintro e w1 ⟨rfl,hbx,hk1,hs1⟩;have HK1:=As.mk hk1;obtain⟨d0,d1,d2,d3,d4⟩:=hbx.cells;clear HW hbx hk1 hs1)
      |(go_at_call 104;refine(HI.out _).mono ?_;rintro e w2 ⟨rfl,rfl⟩))
     go_ret2
     exact enc_none HE.out (by decide) HK1.out
    ·have hmk:=of_decide_eq_true hb
     have hn5:4096<n:=by
      rcases Nat.lt_or_ge 4096 n with h|h
      ·exact h
      ·exact absurd (opErr_ne.2 ⟨by omega,hw,hmk,h⟩) he
     have hk1:k=1:=by omega
     have HE:As (5=opErr k cl sq key.size text.length):=⟨by rw[hkm,hn,opErr,if_neg (by rw[hw];simp only[Bool.true_eq_false,false_or];omega),if_pos hn5]⟩
     clear hw he HWX HIX hn hkm hb h1 hmk h2
     subst hk1
     go_enter Tryz.func74,Tryz.ntmps74
     go_wp2_with (first
      |(go_at_call 103;refine HW.out.mono ?_;rintro e w1 ⟨rfl,hbx,hk1,hs1⟩;have HK1:=As.mk hk1;obtain⟨d0,d1,d2,d3,d4⟩:=hbx.cells;clear HW hbx hk1 hs1)
      |(go_at_call 104;refine(HI.out _).mono ?_;rintro e w2 ⟨rfl,rfl⟩))
     go_ret2
     exact enc_none HE.out (by decide) HK1.out
 ·have HE:As (1=opErr k cl sq key.size text.length):=⟨by rw[opErr,if_pos (.inl (by omega))]⟩
  have hk1:(k !=1)=true:=by simp;omega
  have hk2:(k !=2)=true:=by simp;omega
  have HK1:=As.mk ((Kp.refl [] w).alloc (.cells #[.int .i64 k,.int .i64 cl,.int .i64 sq,.string key,.slice A n c] 46))
  clear h1 he HWX HIX hn hkm
  go_enter Tryz.func74,Tryz.ntmps74
  go_wp2
  go_ret2
  exact enc_none HE.out (by decide) HK1.out
theorem encode_any(k cl sq:Int)(key:ByteArray)(A:Option Addr)(n c:Nat)(text:List Int)(w:World)(hn:text.length=n)(hr:Rd w A (iv .u8 text))(hc:n<=c)(hnil:A=none->c=0)(hm:n<=4611686018427387904):
 Calls Tryz.prog 74 #[.agg #[.int .i64 k,.int .i64 cl,.int .i64 sq,.string key,.slice A n c]] w (EncPost k cl sq key text w):=by
 by_cases h:opErr k cl sq key.size n=0
 ·obtain⟨h1,h2,h3,h4⟩:=opErr_ne.1 h
  exact encode_ok k cl sq key _ rfl A n c text w hn hr hc hnil h1 h2 h3 h4 h
 ·exact encode_no k cl sq key _ rfl A n c text w hn hm h
end Go.Proofs.YtdiljpdohmeceaaGreat.opk
namespace Go.Proofs.YtdiljpdohmeceaaGreat.haystacklaw13
open Go.RowKit H
theorem ret_bool{a b:Bool}(h:a=b):Ending.returned (.bool a)= .returned (.bool b):=by rw[h]
theorem take_eq_step{xs ys:List Int}{k:Nat}(h:xs.take k=ys.take k)(hx:k<xs.length)(hy:k<ys.length)(he:xs[k]=ys[k]):xs.take (k+1)=ys.take (k+1):=by
 rw[List.take_succ_eq_append_getElem hx,List.take_succ_eq_append_getElem hy,h,he]
theorem info_u8:(Tryz.prog.info? 5).map (fun i=>(i.zero,i.size,i.bytes))=some (some (.int .u8 0),1,1):=by kernel_rfl
theorem stands_split{zs ys:List Int}(hl:zs.length=ys.length+1)(he:zs.take ys.length=ys):zs=ys++[zs[ys.length]]:=by
 have:=(List.take_succ_eq_append_getElem (l:=zs) (i:=ys.length) (by omega)).symm
 rw[he,List.take_of_length_le (by omega)] at this
 exact this.symm
end Go.Proofs.YtdiljpdohmeceaaGreat.haystacklaw13
namespace Go.Proofs.YtdiljpdohmeceaaGreat.haystacklaw13
open Go.RowKit H O opk
theorem str_eq{a b:ByteArray}(h:a.toList=b.toList):a=b:=by
 rw[ByteArray.toList_eq,ByteArray.toList_eq] at h
 exact WideShapes.bytes_inj h
theorem row_len(x:List Int):(row x).length<=9+x.length:=by
 have:=num_len (x.length:Int)
 simp only[row,List.length_append]
 omega
theorem opBytes_eq(k c s:Int)(key:ByteArray)(x:List Int):opBytes k c s key x=num k++(num c++(num s++(row (kb key)++(row x++[])))):=by
 simp[opBytes,nums_cons,nums_nil,rows]
end Go.Proofs.YtdiljpdohmeceaaGreat.haystacklaw13
namespace Go.Proofs.YtdiljpdohmeceaaGreat.reader
open Go.RowKit H O
def Rdr(w:World)(b:Nat)(g:Option Nat)(s:Option (List Int)):Prop:=
 ∃A c,w.heap[b]?=some (.cells #[.slice A (left s).length c,.bool s.isNone] 186 (0,0))/\A.map Addr.block=g/\Rd w A (iv .u8 (left s))/\(left s).length<=c/\c<=9223372036854775807/\
  (A=none->c=0)/\g≠some b/\Wf (left s)
def RdrPost(b:Nat)(g:Option Nat)(val:Value)(s:Option (List Int))(w:World)(e:Ending)(w':World):Prop:=
 e= .returned val/\∃g',Rdr w' b g' s/\(g'=g\/g'=none)/\Kp [b] w w'
def NewRdr(xs:List Int)(w:World)(e:Ending)(w':World):Prop:=
 ∃b g,e= .returned (.pointer (some ⟨b,0,none⟩))/\Rdr w' b g (some xs)/\w.heap.size<=b/\(∀x,g=some x->w.heap.size<=x/\x<w'.heap.size)/\Kp [] w w'
theorem Rdr.kp{w w1:World}{b:Nat}{g:Option Nat}{s:Option (List Int)}{S:List Nat}(h:Rdr w b g s)(k:Kp S w w1)(hb:b∉S)(hg:∀x,g=some x->x∉S):Rdr w1 b g s:=by
 obtain⟨A,c,h1,rfl,h3,h4,h5,h6,h7,h8⟩:=h
 exact⟨A,c,k.blk h1 hb,rfl,k.rd h3 (fun a ha=>hg _ (by simp[ha])),h4,h5,h6,h7,h8⟩
theorem Rdr.lt{w:World}{b:Nat}{g:Option Nat}{s:Option (List Int)}(h:Rdr w b g s):b<w.heap.size:=by
 obtain⟨A,c,h1,_⟩:=h
 exact lt_of_block h1
theorem stNum_none{s:Option (List Int)}(h:dec (left s)=none):stNum s=(0,none):=by
 cases s with
 |none=>rfl
 |some l=>simp only[left,Option.getD_some] at h;simp[stNum,h]
theorem stNum_some{s:Option (List Int)}{v:Nat}{r:List Int}(h:dec (left s)=some (v,r)):stNum s=(v,some r):=by
 cases s with
 |none=>simp[left,dec,decF] at h
 |some l=>simp only[left,Option.getD_some] at h;simp[stNum,h]
theorem num_fail{b:Nat}{g:Option Nat}{s:Option (List Int)}{xs:List Int}{w w1:World}(hx:xs=left s)(hd:decF 0 0 xs=none)(h:RdrPost b g (.tuple #[]) none w (.returned (.tuple #[])) w1):
 RdrPost b g (.int .i64 ((stNum s).1:Int)) (stNum s).2 w (.returned (.int .i64 0)) w1:=by
 subst hx
 rw[stNum_none hd]
 exact⟨rfl,h.2⟩
theorem num_ok{b k c c' u1:Nat}{a a':Addr}{s:Option (List Int)}{xs:List Int}{w:World}(hb:w.heap[b]?=some (.cells #[.slice (some a) xs.length c,.bool s.isNone] 186 (0,0)))
 (hR:Rdr w b (some a.block) s) (hx:xs=left s) (hd:decF 0 0 xs=some (u1,xs.drop (k+1))) (hr:Rd w (some a') (iv .u8 (xs.drop (k+1)))) (ha:a'.block=a.block) (hl:xs.length-(k+1)<=c') (hc:c'<=9223372036854775807):
 RdrPost b (some a.block) (.int .i64 ((stNum s).1:Int)) (stNum s).2 w (.returned (.int .i64 (u1:Int))) (w.setCell ⟨b,0,none⟩ (.slice (some a') (xs.length-(k+1)) c')):=by
 obtain⟨_,_,_,_,_,_,_,_,hne,hw⟩:=hR
 subst hx
 rw[stNum_some hd]
 have hs:s.isNone=false:=by
  cases s with
  |none=>simp[left,decF] at hd
  |some l=>rfl
 rw[hs] at hb
 have hk:=(Kp.refl [b] w).setCell (a:=⟨b,0,none⟩) (.inl (by simp)) (.slice (some a') ((left s).length-(k+1)) c')
 refine⟨rfl,some a.block,⟨some a',c', ?_,by simp[ha], ?_,by simpa [left] using hl,hc,by simp,hne,hw.drop _⟩,.inl rfl,hk⟩
 ·have:=heap_setCell_same w b 0 _ _ (.slice (some a') ((left s).length-(k+1)) c') hb
  simpa [left] using this
 ·exact hk.rd hr (fun x hx=>by cases hx;rw[ha];intro hm;exact hne (by simpa using hm))
theorem left_le{s:Option (List Int)}{m:Nat}(h:(left s).length<=m):(left (stNum s).2).length<=m:=by
 cases s with
 |none=>simpa [stNum] using h
 |some l=>
  simp only[left,Option.getD_some] at h
  cases hd:dec l with
  |none=>simp[stNum,hd,left]
  |some p=>
   obtain⟨v,r⟩:=p
   obtain⟨q,e,_⟩:=dec_suffix hd
   simp only[stNum,hd,left,Option.getD_some]
   have:=congrArg List.length e
   simp only[List.length_append] at this
   omega
def whole(s:Option (List Int)):Bool:=s==some []
theorem left_map(s:Option (List Int))(n:Nat):left (s.map (·.drop n))=(left s).drop n:=by cases s<;>simp[left]
theorem Rdr.cut{b n c c':Nat}{a a':Addr}{s:Option (List Int)}{w:World}(hb:w.heap[b]?=some (.cells #[.slice (some a) (left s).length c,.bool s.isNone] 186 (0,0)))
 (hne:some a.block≠some b) (hw:Wf (left s)) (hr:Rd w (some a') (iv .u8 ((left s).drop n))) (ha:a'.block=a.block) (hl:(left s).length-n<=c') (hc:c'<=9223372036854775807):
 Rdr (w.setCell ⟨b,0,none⟩ (.slice (some a') ((left s).length-n) c')) b (some a.block) (s.map (·.drop n))/\Kp [b] w (w.setCell ⟨b,0,none⟩ (.slice (some a') ((left s).length-n) c')):=by
 have hk:=(Kp.refl [b] w).setCell (a:=⟨b,0,none⟩) (.inl (by simp)) (.slice (some a') ((left s).length-n) c')
 refine⟨⟨some a',c', ?_,by simp[ha], ?_,by rw[left_map];simpa using hl,hc,by simp,hne,by rw[left_map];exact hw.drop _⟩,hk⟩
 ·have:=heap_setCell_same w b 0 _ _ (.slice (some a') ((left s).length-n) c') hb
  rw[left_map]
  simpa using this
 ·rw[left_map]
  exact hk.rd hr (fun x hx=>by cases hx;rw[ha];intro hm;exact hne (by simpa using hm))
def RawPost(b:Nat)(g:Option Nat)(r:List Int×Option (List Int))(w:World)(e:Ending)(w':World):Prop:=
 ∃v,e= .returned v/\Own 5 .u8 w' w.heap.size v r.1/\∃g',Rdr w' b g' r.2/\(g'=g\/g'=none)/\Kp [b] w w'
theorem stRaw_bad{s:Option (List Int)}{n:Int}(h:n<0\/((left s).length:Int)<n):stRaw n s=([],none):=by
 cases s with
 |none=>rfl
 |some l=>simp only[stRaw];rw[if_pos (by simpa [left] using h)]
theorem stRaw_good{s:Option (List Int)}{m:Nat}(h:m<=(left s).length):stRaw (m:Int) s=((left s).take m,s.map (·.drop m)):=by
 cases s with
 |none=>simp[stRaw,left]
 |some l=>simp only[stRaw];rw[if_neg (by simp[left] at h⊢;omega)];simp[left]
theorem raw_ok{b m c c' len:Nat}{a a':Addr}{s:Option (List Int)}{w w1:World}{v:Value}(hR:Rdr w b (some a.block) s)(hl:(left s).length=len)
 (hb1:w1.heap[b]?=some (.cells #[.slice (some a) len c,.bool s.isNone] 186 (0,0))) (ho:Own 5 .u8 w1 w.heap.size v ((left s).take m)) (hk:Kp [] w w1)
 (hr:Rd w (some a') (iv .u8 ((left s).drop m))) (ha:a'.block=a.block) (hle:len-m<=c') (hc:c'<=9223372036854775807):
 RawPost b (some a.block) ((left s).take m,s.map (·.drop m)) w (.returned v) (w1.setCell ⟨b,0,none⟩ (.slice (some a') (len-m) c')):=by
 have hlt:=hR.lt
 obtain⟨_,_,_,_,_,_,_,_,hne,hw⟩:=hR
 subst hl
 obtain⟨h1,h2⟩:=Rdr.cut (n:=m) (a':=a') (c':=c') hb1 hne hw (hk.rd hr (fun _ _=>by simp)) ha hle hc
 refine⟨v,rfl,ho.kp h2 ?_,some a.block,h1,.inl rfl,(hk.mono (by simp)).trans h2 (fun x hx=> .inl hx)⟩
 intro g hg
 have:=ho.2 g hg
 simp
 omega
theorem raw_nil{b:Nat}{s:Option (List Int)}{w w1:World}{v:Value}(hR:Rdr w b none s)(hl:(left s).length=0)
 (hb1:w1.heap[b]?=some (.cells #[.slice none 0 0,.bool s.isNone] 186 (0,0))) (ho:Own 5 .u8 w1 w.heap.size v ((left s).take 0)) (hk:Kp [] w w1):
 RawPost b none ((left s).take 0,s.map (·.drop 0)) w (.returned v) (w1.setCell ⟨b,0,none⟩ (.slice none 0 0)):=by
 have hlt:=hR.lt
 have e:s.map (·.drop 0)=s:=by cases s<;>simp
 have e0:left s=[]:=List.eq_nil_of_length_eq_zero hl
 have h2:=(Kp.refl [b] w1).setCell (a:=⟨b,0,none⟩) (.inl (by simp)) (.slice none 0 0)
 rw[e]
 refine⟨v,rfl,ho.kp h2 ?_,none,⟨none,0, ?_,rfl,by rw[e0];exact Rd.nil _ _,by show(left s).length<=0;omega,by omega,fun _=>rfl,by simp,by rw[e0];exact Wf.nil⟩,.inl rfl,(hk.mono (by simp)).trans h2 (fun x hx=> .inl hx)⟩
 ·intro g hg
  have:=ho.2 g hg
  simp
  omega
 ·have:=heap_setCell_same w1 b 0 _ _ (.slice none 0 0) hb1
  rw[hl]
  simpa using this
theorem Rdr.bad{w:World}{b:Nat}{g:Option Nat}{cs:Array Value}{x y:Value}(hcs:cs= #[x,y])(hb:w.heap[b]?=some (.cells cs 186 (0,0))):
 RdrPost b g (.tuple #[]) none w (.returned (.tuple #[])) ((w.setCell ⟨b,0,none⟩ (.slice none 0 0)).setCell ⟨b,1,none⟩ (.bool true))/\
 RdrPost b g (.tuple #[]) none w (.returned (.tuple #[])) ((w.setCell ⟨b,1,none⟩ (.bool true)).setCell ⟨b,0,none⟩ (.slice none 0 0)):=by
 subst hcs
 refine⟨⟨rfl,none,⟨none,0, ?_,rfl,Rd.nil _ _,Nat.le_refl _,by omega,fun _=>rfl,by simp,Wf.nil⟩,.inr rfl, ?_⟩,⟨rfl,none,⟨none,0, ?_,rfl,Rd.nil _ _,Nat.le_refl _,by omega,fun _=>rfl,by simp,Wf.nil⟩,.inr rfl, ?_⟩⟩
 ·have h1:=heap_setCell_same w b 0 _ _ (.slice none 0 0) hb
  exact heap_setCell_same _ b 1 _ _ (.bool true) h1
 ·exact((Kp.refl [b] w).setCell (.inl (by simp)) _).setCell (.inl (by simp)) _
 ·have h1:=heap_setCell_same w b 1 _ _ (.bool true) hb
  exact heap_setCell_same _ b 0 _ _ (.slice none 0 0) h1
 ·exact((Kp.refl [b] w).setCell (.inl (by simp)) _).setCell (.inl (by simp)) _
theorem new_any(A:Option Addr)(n c:Nat)(xs:List Int)(w:World)(hn:xs.length=n)(h0:Rd w A (iv .u8 xs))(hnil:A=none->c=0)(hb:n<=140737488351232)(hw:Wf xs):
 Calls Tryz.prog 86 #[.slice A n c] w (NewRdr xs w):=by
 subst hn
 have HC:=As.mk (clone.clone_any A xs.length c xs w rfl h0 hnil (by omega))
 have HW:=As.mk hw
 clear h0 hnil hw
 go_enter Tryz.func86,Tryz.ntmps86
 go_wp2_with (go_at_call 118;refine HC.out.mono ?_;rintro e w1 ⟨v,rfl,ho,hk⟩;obtain⟨A1,c1,rfl,hl1,hm1,hr1,hn1⟩:=own_rd ho.1;have HO:=As.mk ho;have HK:=As.mk hk;have HR:=As.mk hr1;have HN:=As.mk hn1;have HL:=As.mk hl1;have HM:=As.mk hm1;clear ho hk hr1 hn1 hl1 hm1)
 go_ret
 refine⟨w1.heap.size,A1.map Addr.block,rfl,⟨A1,c1,heap_alloc_new w1 _,rfl,((Kp.refl [] w1).alloc _).rd_new HR.out (by simp),HL.out,HM.out,HN.out, ?_,HW.out⟩,HK.out.size, ?_,HK.out.alloc _⟩
 ·intro h
  have:=own_lt HO.out.1 w1.heap.size (by rw[ownBlock_slice];exact h)
  omega
 ·intro x hx
  have hx':(Value.slice A1 xs.length c1).ownBlock=some x:=by rw[ownBlock_slice];exact hx
  have:=own_lt HO.out.1 x hx'
  exact⟨HO.out.2 x hx',by rw[World.size_alloc];omega⟩
theorem bad_any(b:Nat)(g:Option Nat)(s:Option (List Int))(w:World)(hR:Rdr w b g s):
 Calls Tryz.prog 89 #[.pointer (some ⟨b,0,none⟩)] w (RdrPost b g (.tuple #[]) none w):=by
 obtain⟨A,c,hb,rfl,hr,hl,hm,hn,hne,hw⟩:=hR
 have c0:=bkc hb 0 rfl
 have c1:=bkc hb 1 rfl
 have f0:=blk_free hb 0
 have f1:=blk_free hb 1
 have HB:=As.mk hb
 clear hb hr hl hm hn hne hw
 go_enter Tryz.func89,Tryz.ntmps89
 go_wp2
 go_end0
 refine⟨rfl,none,⟨none,0, ?_,rfl,Rd.nil _ _,Nat.le_refl _,by omega,fun _=>rfl,by simp,Wf.nil⟩,.inr rfl, ?_⟩
 ·have h1:=heap_setCell_same w b 0 _ _ (.slice none 0 0) HB.out
  exact heap_setCell_same _ b 1 _ _ (.bool true) h1
 ·exact((Kp.refl [b] w).setCell (.inl (by simp)) _).setCell (.inl (by simp)) _
theorem dec_step{xs:List Int}{k u:Nat}(hk:k<xs.length):decF k u (xs.drop k)=
 if 9<=k\/(0<k/\xs[k]=0) then none
 else if xs[k]<128 then(if 4611686018427387904<u+xs[k].toNat*128^k then none else some (u+xs[k].toNat*128^k,xs.drop (k+1)))
 else decF (k+1) (u+(xs[k].toNat-128)*128^k) (xs.drop (k+1)):=by
 rw[List.drop_eq_getElem_cons hk,decF]
theorem num_any(b:Nat)(g:Option Nat)(s:Option (List Int))(w:World)(hR:Rdr w b g s)(hb:(left s).length<=140737488351232):
 Calls Tryz.prog 87 #[.pointer (some ⟨b,0,none⟩)] w (RdrPost b g (.int .i64 ((stNum s).1:Int)) (stNum s).2 w):=by
 have HBAD:=As.mk (bad_any b g s w hR)
 have HRR:=As.mk hR
 obtain⟨A,c,hb0,rfl,hr,hl,hm,hn,hne,hw⟩:=hR
 obtain⟨xs,hxs⟩:∃xs,xs=left s:=⟨_,rfl⟩
 rw[<-hxs] at hb0 hr hl hw hb
 have c0:=bkc hb0 0 rfl
 have f0:=blk_free hb0 0
 have HB:=As.mk hb0
 have HR:=As.mk hr
 have HW:=As.mk hw
 have HX:=As.mk hxs
 clear hb0 hr hn hne hw hxs
 go_enter Tryz.func87,Tryz.ntmps87
 go_wp2
 go_loop [3,13] (fun u i=>∃k u0:Nat,i= .int .i64 (k:Int)/\u= .int .u64 (u0:Int)/\k<=9/\k<=xs.length/\As (u0<128^k)/\As (decF 0 0 xs=decF k u0 (xs.drop k))) (fun _ i=>xs.length-(intOf i).toNat)
 case atStart=>exact⟨0,0,rfl,rfl,by omega,by omega,⟨by decide⟩,⟨rfl⟩⟩
 case round=>
  obtain⟨k,u0,rfl,rfl,hk9,hk,HU,HD⟩:=hrel
  by_cases hlt:k<xs.length
  ·obtain⟨a,rfl,d0⟩:=HR.out.int k hlt
   have HS:=As.mk (dec_step (u:=u0) hlt)
   have hc:=HW.out xs[k] (by simp)
   obtain⟨y,hy⟩:∃y,y=xs[k]:=⟨_,rfl⟩
   rw[<-hy] at d0 hc
   have HY:=As.mk hy
   clear hy
   by_cases h9:9<=k
   ·have HF:As (decF 0 0 xs=none):=⟨by rw[HD.out,HS.out,if_pos (.inl h9)]⟩
    have g1:decide (9<=(k:Int))=true:=by simp;omega
    go_wp2_with (go_at_call 89;refine HBAD.out.mono ?_;rintro e w1 HP;obtain rfl:=HP.1;have HPA:=As.mk HP;clear HP)
    go_ret
    exact num_fail HX.out HF.out HPA.out
   ·have g1:decide (9<=(k:Int))=false:=by simp;omega
    by_cases h0:0<k/\y=0
    ·obtain⟨h0k,rfl⟩:=h0
     have HF:As (decF 0 0 xs=none):=⟨by rw[HD.out,HS.out,if_pos (.inr ⟨h0k,HY.out.symm⟩)]⟩
     have g2:decide (0<(k:Int))=true:=by simp;omega
     go_wp2_with (go_at_call 89;refine HBAD.out.mono ?_;rintro e w1 HP;obtain rfl:=HP.1;have HPA:=As.mk HP;clear HP)
     go_ret
     exact num_fail HX.out HF.out HPA.out
    ·have HN0:As (¬(9<=k\/(0<k/\xs[k]=0))):=⟨by rw[<-HY.out];omega⟩
     have hcase:¬0<k\/(0<k/\¬y=0):=by omega
     clear h0
     obtain g2|⟨g2,g3⟩:=hcase
     all_goals
      obtain⟨u1,hu1⟩:∃u1:Nat,u1=u0+y.toNat%128*128^k:=⟨_,rfl⟩
      have hbit:=num_bits u0 k y hc.1 hc.2 (by omega) HU.out
      rw[<-hu1] at hbit
      have HU1:=As.mk hu1
      clear hu1
      by_cases h128:y<128
      ·have e1:y.toNat%128=y.toNat:=by omega
       have HE:As (u0+xs[k].toNat*128^k=u1):=⟨by rw[HU1.out,<-HY.out,e1]⟩
       have HL:As (xs[k]<128):=⟨by rw[<-HY.out];exact h128⟩
       clear e1
       by_cases hbig:4611686018427387904<u1
       ·have HF:As (decF 0 0 xs=none):=⟨by rw[HD.out,HS.out,if_neg HN0.out,if_pos HL.out,HE.out,if_pos hbig]⟩
        go_wp2_with (go_at_call 89;refine HBAD.out.mono ?_;rintro e w1 HP;obtain rfl:=HP.1;have HPA:=As.mk HP;clear HP)
        go_ret
        exact num_fail HX.out HF.out HPA.out
       ·have HF:As (decF 0 0 xs=some (u1,xs.drop (k+1))):=⟨by rw[HD.out,HS.out,if_neg HN0.out,if_pos HL.out,HE.out,if_neg hbig]⟩
        go_wp2_with fail
        all_goals go_ret
        ·exact num_ok HB.out HRR.out HX.out HF.out (a':=a) (by rw[List.drop_of_length_le (show xs.length<=k+1 by omega)];exact Rd.nil _ _) rfl (by omega) (by omega)
        ·exact num_ok HB.out HRR.out HX.out HF.out (a':=a.add (k+1)) (by rw[<-iv_drop];exact HR.out.drop _) (add_block _ _) (by omega) (by omega)
      ·have HF:As (decF 0 0 xs=decF (k+1) u1 (xs.drop (k+1))):=by
        constructor
        have e1:y.toNat%128=y.toNat-128:=by omega
        rw[HD.out,HS.out,if_neg HN0.out,if_neg (by rw[<-HY.out];exact h128),HU1.out,<-HY.out,e1]
       have HB1:As (u1<128^(k+1)):=by
        constructor
        rw[HU1.out,Nat.pow_succ]
        have h1:y.toNat%128*128^k<=127*128^k:=Nat.mul_le_mul_right _ (by omega)
        have h2:=HU.out
        omega
       go_wp2_with fail
       go_round
       case rel=>exact⟨k+1,u1,by go_num,rfl,by omega,by omega,HB1,HF⟩
       case measure=>simp[intOf];omega
  ·have HF:As (decF 0 0 xs=none):=⟨by rw[HD.out,List.drop_of_length_le (by omega)];rfl⟩
   go_wp2_with (go_at_call 89;refine HBAD.out.mono ?_;rintro e w1 HP;obtain rfl:=HP.1;have HPA:=As.mk HP;clear HP)
   go_ret
   exact num_fail HX.out HF.out HPA.out
theorem good_any(b:Nat)(g:Option Nat)(s:Option (List Int))(w:World)(hR:Rdr w b g s):
 Calls Tryz.prog 117 #[.pointer (some ⟨b,0,none⟩)] w fun e w'=>e= .returned (.bool s.isSome)/\w'=w:=by
 obtain⟨A,c,hb,rfl,_⟩:=hR
 have c1:=bkc hb 1 rfl
 clear hb
 cases s
 ·go_enter Tryz.func117,Tryz.ntmps117
  go_wp2
  go_ret
  exact⟨rfl,rfl⟩
 ·go_enter Tryz.func117,Tryz.ntmps117
  go_wp2
  go_ret
  exact⟨rfl,rfl⟩
theorem whole_any(b:Nat)(g:Option Nat)(s:Option (List Int))(w:World)(hR:Rdr w b g s):
 Calls Tryz.prog 90 #[.pointer (some ⟨b,0,none⟩)] w fun e w'=>e= .returned (.bool (whole s))/\w'=w:=by
 have HG:=As.mk (good_any b g s w hR)
 obtain⟨A,c,hb,rfl,_⟩:=hR
 have c0:=bkc hb 0 rfl
 clear hb
 rcases s with _|⟨_|⟨x,l⟩⟩
 ·go_enter Tryz.func90,Tryz.ntmps90
  go_wp2_with (go_at_call 117;refine HG.out.mono ?_;rintro e w1 ⟨rfl,rfl⟩)
  go_ret
  exact⟨rfl,rfl⟩
 ·go_enter Tryz.func90,Tryz.ntmps90
  go_wp2_with (go_at_call 117;refine HG.out.mono ?_;rintro e w1 ⟨rfl,rfl⟩)
  go_ret
  exact⟨rfl,rfl⟩
 ·have hl:(((left (some (x::l))).length:Int)==0)=false:=by simp[left];omega
  go_enter Tryz.func90,Tryz.ntmps90
  go_wp2_with (go_at_call 117;refine HG.out.mono ?_;rintro e w1 ⟨rfl,rfl⟩)
  go_ret
  exact⟨rfl,rfl⟩
theorem raw_any(b:Nat)(g:Option Nat)(s:Option (List Int))(n:Int)(w:World)(hR:Rdr w b g s)(hb:(left s).length<=140737488351232):
 Calls Tryz.prog 114 #[.pointer (some ⟨b,0,none⟩),.int .i64 n] w (RawPost b g (stRaw n s) w):=by
 have HBAD:=As.mk (bad_any b g s w hR)
 have HRR:=As.mk hR
 obtain⟨A,c,hb0,rfl,hr,hl,hm,hn,hne,hw⟩:=hR
 obtain⟨len,hlen⟩:∃len,(left s).length=len:=⟨_,rfl⟩
 rw[hlen] at hb0 hl hb
 have c0:=bkc hb0 0 rfl
 have HB:=As.mk hb0
 have HR:=As.mk hr
 have HW:=As.mk hw
 have HL:=As.mk hlen
 have HN:=As.mk hn
 have HE:=As.mk hne
 clear hb0 hr hn hne hw hlen
 by_cases h0:n<0
 ·have HS:=As.mk (stRaw_bad (s:=s) (.inl h0))
  go_enter Tryz.func114,Tryz.ntmps114
  go_wp2_with (go_at_call 89;refine HBAD.out.mono ?_;rintro e w1 HP;obtain rfl:=HP.1;have HPA:=As.mk HP;clear HP)
  go_ret
  rw[HS.out]
  exact⟨_,rfl,Own.nil _ _ _ _,HPA.out.2⟩
 ·by_cases h1:(len:Int)<n
  ·have HS:=As.mk (stRaw_bad (s:=s) (n:=n) (.inr (by rw[HL.out];exact h1)))
   go_enter Tryz.func114,Tryz.ntmps114
   go_wp2_with (go_at_call 89;refine HBAD.out.mono ?_;rintro e w1 HP;obtain rfl:=HP.1;have HPA:=As.mk HP;clear HP)
   go_ret
   rw[HS.out]
   exact⟨_,rfl,Own.nil _ _ _ _,HPA.out.2⟩
  ·obtain⟨m,rfl⟩:=Int.eq_ofNat_of_zero_le (by omega:0<=n)
   have hml:m<=len:=by omega
   clear h0 h1
   have HS:=As.mk (stRaw_good (s:=s) (m:=m) (by rw[HL.out];exact hml))
   cases A with
   |none=>
    have hc:=HN.out rfl
    subst hc
    obtain rfl:len=0:=by omega
    obtain rfl:m=0:=by omega
    have HC:=As.mk (clone.clone_any none 0 0 ((left s).take 0) w (by simp) (by simpa [iv] using Rd.nil w none) (by simp) (by omega))
    go_enter Tryz.func114,Tryz.ntmps114
    go_wp2_with (go_at_call 118;refine HC.out.mono ?_;rintro e w1 ⟨v,rfl,ho,hk⟩;have hb1:=hk.blk HB.out (by simp);have c01:=bkc hb1 0 rfl;have f01:=blk_free hb1 0;have HO:=As.mk ho;have HK:=As.mk hk;have HB1:=As.mk hb1;clear ho hk hb1)
    go_ret
    rw[HS.out]
    exact raw_nil HRR.out HL.out HB1.out HO.out HK.out
   |some a=>
    have HC:=As.mk (clone.clone_any (some a) m c ((left s).take m) w (by rw[List.length_take,HL.out];omega) (by rw[<-iv_take];exact HR.out.take _) (by simp) (by omega))
    go_enter Tryz.func114,Tryz.ntmps114
    go_wp2_with (go_at_call 118;refine HC.out.mono ?_;rintro e w1 ⟨v,rfl,ho,hk⟩;have hb1:=hk.blk HB.out (by simp);have c01:=bkc hb1 0 rfl;have f01:=blk_free hb1 0;have HO:=As.mk ho;have HK:=As.mk hk;have HB1:=As.mk hb1;clear ho hk hb1)
    all_goals go_ret
    all_goals rw[HS.out]
    ·exact raw_ok HRR.out HL.out HB1.out HO.out HK.out (a':=a) (by rw[<-iv_drop,List.drop_of_length_le (by rw[iv_len,HL.out];omega)];exact Rd.nil _ _) rfl (by omega) (by omega)
    ·exact raw_ok HRR.out HL.out HB1.out HO.out HK.out (a':=a.add m) (by rw[<-iv_drop];exact HR.out.drop _) (add_block _ _) (by omega) (by omega)
theorem bytes_any(b:Nat)(g:Option Nat)(s:Option (List Int))(w:World)(hR:Rdr w b g s)(hb:(left s).length<=140737488351232):
 Calls Tryz.prog 88 #[.pointer (some ⟨b,0,none⟩)] w (RawPost b g (stBytes s) w):=by
 have HN:=As.mk (num_any b g s w hR hb)
 have HL:=As.mk (left_le hb)
 clear hR
 go_enter Tryz.func88,Tryz.ntmps88
 go_wp2_with (first
  |(go_at_call 87;refine HN.out.mono ?_;rintro e w1 HP;obtain rfl:=HP.1;obtain⟨_,g1,R1,G1,K1⟩:=HP;have HG1:=As.mk G1;have HK1:=As.mk K1;have HRW:=As.mk (raw_any b g1 (stNum s).2 ((stNum s).1:Int) w1 R1 HL.out);clear R1 G1 K1)
  |(go_at_call 114;refine HRW.out.mono ?_;rintro e w2 ⟨v,rfl,O2,g2,R2,G2,K2⟩;have HP2:=As.mk (And.intro O2 (And.intro R2 (And.intro G2 K2)));clear O2 R2 G2 K2))
 go_ret
 obtain⟨O2,R2,G2,K2⟩:=HP2.out
 refine⟨v,rfl,O2.lower HK1.out.size,g2,R2, ?_,HK1.out.trans K2 (fun x hx=> .inl hx)⟩
 rcases G2 with rfl|rfl
 ·exact HG1.out
 ·exact .inr rfl
def put1(w:World)(p:Option Addr)(v:Int):World:=
 match p with
 |none=>w
 |some a=>w.setCell a (.int .i64 v)
def putAll(w:World):List (Option Addr×Int)->World
 |[]=>w
 |x::r=>putAll (put1 w x.1 x.2) r
theorem putAll_snoc(w:World)(l:List (Option Addr×Int))(x:Option Addr×Int):putAll w (l++[x])=put1 (putAll w l) x.1 x.2:=by
 induction l generalizing w with
 |nil=>rfl
 |cons y l ih=>simp only[List.cons_append,putAll];exact ih _
theorem put1_size(w:World)(p:Option Addr)(v:Int):(put1 w p v).heap.size=w.heap.size:=by cases p<;>simp[put1]
def IsInt(w:World)(a:Addr):Prop:=(∃x,w.cell? a=some (.int .i64 x))/\w.frozen? a=false
theorem put1_isInt{w:World}{a:Addr}(h:IsInt w a)(p:Option Addr)(v:Int):IsInt (put1 w p v) a:=by
 cases p with
 |none=>exact h
 |some q=>
  obtain⟨⟨x,hx⟩,hf⟩:=h
  refine⟨?_,by simpa [put1] using hf⟩
  by_cases e:q=a
  ·subst e
   exact⟨v,World.cell?_setCell_same _ _ _ hx⟩
  ·exact⟨x,by simp only[put1];rw[World.cell?_setCell_other _ _ _ _ e];exact hx⟩
theorem putAll_isInt{w:World}{a:Addr}(h:IsInt w a)(l:List (Option Addr×Int)):IsInt (putAll w l) a:=by
 induction l generalizing w with
 |nil=>exact h
 |cons y l ih=>exact ih (put1_isInt h _ _)
theorem put1_far(w:World)(p:Option Addr)(v:Int)(k:Nat)(h:∀a,p=some a->a.block≠k):(put1 w p v).heap[k]?=w.heap[k]?:=by
 cases p with
 |none=>rfl
 |some a=>exact heap_setCell_other _ _ _ _ (fun e=>h a rfl e.symm)
theorem putAll_far(w:World)(l:List (Option Addr×Int))(k:Nat)(h:∀x∈l,∀a,x.1=some a->a.block≠k):(putAll w l).heap[k]?=w.heap[k]?:=by
 induction l generalizing w with
 |nil=>rfl
 |cons y l ih=>rw[putAll,ih _ (fun x hx=>h x (by simp[hx])),put1_far _ _ _ _ (h y (by simp))]
theorem stNums_len(k:Nat)(s:Option (List Int)):(stNums k s).1.length=k:=by
 induction k generalizing s with
 |zero=>rfl
 |succ k ih=>simp only[stNums,List.length_cons,ih]
theorem stNums_snoc(k:Nat)(s:Option (List Int)):stNums (k+1) s=((stNums k s).1++[((stNum (stNums k s).2).1:Int)],(stNum (stNums k s).2).2):=by
 induction k generalizing s with
 |zero=>rfl
 |succ k ih=>
  have h1:stNums (k+1+1) s=(((stNum s).1:Int)::(stNums (k+1) (stNum s).2).1,(stNums (k+1) (stNum s).2).2):=rfl
  have h2:stNums (k+1) s=(((stNum s).1:Int)::(stNums k (stNum s).2).1,(stNums k (stNum s).2).2):=rfl
  rw[h1,ih,h2]
  rfl
theorem stNums_left{k m:Nat}{s:Option (List Int)}(h:(left s).length<=m):(left (stNums k s).2).length<=m:=by
 induction k with
 |zero=>exact h
 |succ k ih=>rw[stNums_snoc];exact left_le ih
def NumsPost(b:Nat)(g:Option Nat)(ps:List (Option Addr))(s:Option (List Int))(w:World)(e:Ending)(w':World):Prop:=
 e= .returned (.tuple #[])/\(∃g',Rdr w' b g' (stNums ps.length s).2/\(g'=g\/g'=none))/\w'.os=w.os/\w'.tape=w.tape/\w'.output=w.output/\w.heap.size<=w'.heap.size/\
  ∀k,k<w.heap.size->k≠b->w'.heap[k]?=(putAll w (ps.zip (stNums ps.length s).1)).heap[k]?
theorem NumsPost.step{b:Nat}{g g1:Option Nat}{ps:List (Option Addr)}{p:Option Addr}{s:Option (List Int)}{w wr w1:World}(h:NumsPost b g ps s w (.returned (.tuple #[])) wr)
 (hR:Rdr w1 b g1 (stNum (stNums ps.length s).2).2) (hg:g1=g\/g1=none) (hk:Kp [b] wr w1) (hp:∀a,p=some a->a.block≠b/\g≠some a.block):
 NumsPost b g (ps++[p]) s w (.returned (.tuple #[])) (put1 w1 p ((stNum (stNums ps.length s).2).1:Int)):=by
 obtain⟨_,_,h1,h2,h3,h4,h5⟩:=h
 have hkp:Kp (p.map Addr.block).toList w1 (put1 w1 p ((stNum (stNums ps.length s).2).1:Int)):=by
  cases p with
  |none=>exact Kp.refl _ _
  |some a=>exact(Kp.refl _ _).setCell (.inl (by simp)) _
 have hz:(ps++[p]).zip (stNums (ps++[p]).length s).1=ps.zip (stNums ps.length s).1++[(p,((stNum (stNums ps.length s).2).1:Int))]:=by
  rw[List.length_append,List.length_singleton,stNums_snoc,List.zip_append (by rw[stNums_len])]
  rfl
 refine⟨rfl,⟨g1, ?_,hg⟩,(hkp.os.trans hk.os).trans h1,(hkp.tape.trans hk.tape).trans h2,(hkp.output.trans hk.output).trans h3,by rw[put1_size];have:=hk.size;omega, ?_⟩
 ·rw[List.length_append,List.length_singleton,stNums_snoc]
  refine hR.kp hkp ?_ ?_
  ·intro hm
   cases p with
   |none=>simp at hm
   |some a=>exact(hp a rfl).1 (by have h9:b=a.block:=by simpa using hm
                                  exact h9.symm)
  ·intro x hx hm
   cases p with
   |none=>simp at hm
   |some a=>
    have hxa:x=a.block:=by simpa using hm
    rcases hg with rfl|rfl
    ·exact(hp a rfl).2 (by rw[hx,hxa])
    ·cases hx
 ·intro k hk1 hk2
  rw[hz,putAll_snoc]
  by_cases e:∃a,p=some a/\a.block=k
  ·obtain⟨a,rfl,rfl⟩:=e
   have e1:w1.heap[a.block]?=(putAll w (ps.zip (stNums ps.length s).1)).heap[a.block]?:=(hk.block _ (by omega) (by simpa using hk2)).trans (h5 _ hk1 hk2)
   simp only[put1,World.setCell,Array.getElem?_modify,e1]
  ·rw[put1_far _ _ _ _ (fun a ha hb=>e ⟨a,ha,hb⟩),put1_far _ _ _ _ (fun a ha hb=>e ⟨a,ha,hb⟩)]
   exact(hk.block _ (by omega) (by simpa using hk2)).trans (h5 _ hk1 hk2)
theorem isInt_of_block{w w':World}{a:Addr}(h:IsInt w a)(he:w'.heap[a.block]?=w.heap[a.block]?):IsInt w' a:=by
 obtain⟨⟨x,hx⟩,hf⟩:=h
 exact⟨⟨x,(World.cell?_of_block he).trans hx⟩,(World.frozen?_of_block he).trans hf⟩
theorem IsInt.lt{w:World}{a:Addr}(h:IsInt w a):a.block<w.heap.size:=by
 obtain⟨⟨x,hx⟩,_⟩:=h
 exact World.block_lt_of_cell? w _ hx
theorem mem_zip_take{ps:List (Option Addr)}{k:Nat}{vs:List Int}{x:Option Addr×Int}(h:x∈(ps.take k).zip vs):x.1∈ps:=List.mem_of_mem_take (List.of_mem_zip (a:=x.1) (b:=x.2) h).1
theorem NumsPost.place{b:Nat}{g:Option Nat}{ps:List (Option Addr)}{s:Option (List Int)}{w wr:World}{k:Nat}(h:NumsPost b g (ps.take k) s w (.returned (.tuple #[])) wr)
 (hp:∀p∈ps,∀q,p=some q->q.block≠b/\g≠some q.block/\IsInt w q) {q:Addr} (hq:some q∈ps):IsInt wr q:=by
 obtain⟨_,_,_,_,_,_,h5⟩:=h
 obtain⟨h1,_,h3⟩:=hp _ hq q rfl
 exact isInt_of_block (putAll_isInt h3 _) (h5 _ h3.lt h1)
theorem NumsPost.at{b:Nat}{g:Option Nat}{ps:List (Option Addr)}{s:Option (List Int)}{w wr:World}{k:Nat}(h:NumsPost b g (ps.take k) s w (.returned (.tuple #[])) wr)
 {a:Addr} (ha:a.block≠b) (hA:∀p∈ps,∀q,p=some q->q.block≠a.block) {v:Value} (hc:w.cell? a=some v):wr.cell? a=some v:=by
 obtain⟨_,_,_,_,_,_,h5⟩:=h
 refine(World.cell?_of_block ((h5 _ (World.block_lt_of_cell? w _ hc) ha).trans (putAll_far _ _ _ ?_))).trans hc
 intro x hx q hq
 exact hA _ (mem_zip_take hx) q hq
theorem nums_any(b:Nat)(g:Option Nat)(s:Option (List Int))(A:Option Addr)(n c:Nat)(ps:List (Option Addr))(w:World)(hR:Rdr w b g s)(hb:(left s).length<=140737488351232)
 (hn:ps.length=n) (hm:n<=4611686018427387904) (hr:Rd w A (ps.map Value.pointer)) (hA:∀a,A=some a->a.block≠b/\∀p∈ps,∀q,p=some q->q.block≠a.block)
 (hp:∀p∈ps,∀q,p=some q->q.block≠b/\g≠some q.block/\IsInt w q):
 Calls Tryz.prog 115 #[.pointer (some ⟨b,0,none⟩),.slice A n c] w (NumsPost b g ps s w):=by
 subst hn
 have HR:=As.mk hr
 have HA:=As.mk hA
 have HP:=As.mk hp
 have H0:As (NumsPost b g (ps.take 0) s w (.returned (.tuple #[])) w):=⟨rfl,⟨g,hR,.inl rfl⟩,rfl,rfl,rfl,Nat.le_refl _,fun _ _ _=>rfl⟩
 clear hr hA hp hR
 go_enter Tryz.func115,Tryz.ntmps115
 go_wp2
 go_loopw [9] (fun i wr=>∃k:Nat,i= .int .i64 (k:Int)/\k<=ps.length/\As (NumsPost b g (ps.take k) s w (.returned (.tuple #[])) wr)) (fun i _=>ps.length-(intOf i).toNat)
 case atStart=>exact⟨0,rfl,by omega,H0⟩
 case round=>
  obtain⟨k,rfl,hk,HN⟩:=hrel
  by_cases hlt:k<ps.length
  ·obtain⟨a,rfl,d0⟩:=HR.out k (.pointer ps[k]) (by simp[hlt])
   obtain⟨hab,haq⟩:=HA.out a rfl
   have d1:=NumsPost.at HN.out (a:=a.add k) (by rw[add_block];exact hab) (by rw[add_block];exact haq) d0
   clear d0 hab haq
   obtain⟨_,⟨g1,R1,G1⟩,_⟩:=HN.out
   have hlk:(ps.take k).length=k:=by rw[List.length_take];omega
   have HC:=As.mk (num_any b g1 _ wr R1 (stNums_left hb))
   have HG1:=As.mk G1
   have HLK:=As.mk hlk
   clear R1 G1 hlk
   have hmem:ps[k]∈ps:=List.getElem_mem hlt
   obtain⟨p,hpe⟩:∃p,p=ps[k]:=⟨_,rfl⟩
   rw[<-hpe] at d1 hmem
   have HM:=As.mk hmem
   have HPE:=As.mk hpe
   clear hmem hpe
   have HQ:As (∀a,p=some a->a.block≠b/\g≠some a.block):=⟨fun a ha=>⟨(HP.out p HM.out a ha).1,(HP.out p HM.out a ha).2.1⟩⟩
   have HT:As (ps.take (k+1)=ps.take k++[p]):=⟨by rw[HPE.out];exact take_succ' ps k hlt⟩
   have HLT:=As.mk hlt
   cases p with
   |none=>
    go_wp2_with (go_at_call 87;refine HC.out.mono ?_;rintro e w1 HP1;obtain rfl:=HP1.1;obtain⟨_,g2,R2,G2,K2⟩:=HP1;have HNX:=As.mk (NumsPost.step HN.out R2 (by rcases G2 with rfl|rfl;exact HG1.out;exact .inr rfl) K2 HQ.out);clear R2 G2 K2)
    go_roundw
    case rel=>exact⟨k+1,by go_num,by omega,⟨by rw[HT.out];exact HNX.out⟩⟩
    case measure=>simp[intOf];omega
   |some q=>
    have HI:=As.mk (NumsPost.place HN.out HP.out HM.out)
    go_wp2_with (go_at_call 87;refine HC.out.mono ?_;rintro e w1 HP1;obtain rfl:=HP1.1;obtain⟨_,g2,R2,G2,K2⟩:=HP1;have HNX:=As.mk (NumsPost.step HN.out R2 (by rcases G2 with rfl|rfl;exact HG1.out;exact .inr rfl) K2 HQ.out);obtain⟨⟨x1,hx1⟩,hf1⟩:=isInt_of_block HI.out (K2.block _ HI.out.lt (by simpa using (HQ.out q rfl).1));clear R2 G2 K2)
    go_roundw
    case rel=>exact⟨k+1,by go_num,by omega,⟨by rw[HT.out];have h9:=HNX.out;rw[HLK.out] at h9;exact h9⟩⟩
    case measure=>simp[intOf];omega
  ·go_wp2
   go_end0
   have:ps.take k=ps:=List.take_of_length_le (by omega)
   rw[this] at HN
   exact HN.out
end Go.Proofs.YtdiljpdohmeceaaGreat.reader
namespace Go.Proofs.YtdiljpdohmeceaaGreat.O
open Go.RowKit
def st(v:BitVec 32):BitVec 32:=if v.getLsbD 0 then(v>>>1)^^^3988292384#32 else v>>>1
def sts:Nat->BitVec 32->BitVec 32
 |0,v=>v
 |n+1,v=>st (sts n v)
def crcB(v:BitVec 32)(c:Int):BitVec 32:=sts 8 (v^^^BitVec.ofInt 32 c)
def crcF(v:BitVec 32)(xs:List Int):BitVec 32:=xs.foldl crcB v
def crc(xs:List Int):Int:=((~~~(crcF 4294967295#32 xs)).toNat:Int)
theorem wrap_bv(v:BitVec 32):IntKind.u32.wrap (v.toNat:Int)=(v.toNat:Int):=by
 rw[IntKind.wrap_u32]
 have:=v.isLt
 omega
theorem of_bv(v:BitVec 32):BitVec.ofInt 32 (v.toNat:Int)=v:=by rw[BitVec.ofInt_natCast];simp
theorem xor_bv(a b:BitVec 32):bits .xor .u32 (a.toNat:Int) (b.toNat:Int)=((a^^^b).toNat:Int):=by
 show IntKind.u32.wrap _=_
 rw[<-wrap_bv (a^^^b)]
 congr 2
 exact congrArg BitVec.toNat (by show BitVec.ofInt 32 _^^^BitVec.ofInt 32 _=_;rw[of_bv,of_bv])
theorem and_bv(a b:BitVec 32):bits .and .u32 (a.toNat:Int) (b.toNat:Int)=((a&&&b).toNat:Int):=by
 show IntKind.u32.wrap _=_
 rw[<-wrap_bv (a&&&b)]
 congr 2
 exact congrArg BitVec.toNat (by show BitVec.ofInt 32 _&&&BitVec.ofInt 32 _=_;rw[of_bv,of_bv])
theorem byte_bv(c:Int)(h0:0<=c)(h1:c<256):((BitVec.ofInt 32 c).toNat:Int)=c:=by
 rw[BitVec.toNat_ofInt]
 omega
theorem and_one(v:BitVec 32):(v&&&1#32).toNat=if v.getLsbD 0 then 1 else 0:=by
 rw[BitVec.toNat_and]
 show v.toNat&&&1=_
 rw[Nat.and_one_is_mod]
 simp only[BitVec.getLsbD,Nat.testBit_zero]
 by_cases h:v.toNat%2=1<;>simp[h]<;>omega
theorem half_bv(v:BitVec 32):((v>>>1).toNat:Int)=(v.toNat:Int)/2:=by
 rw[BitVec.toNat_ushiftRight,Nat.shiftRight_eq_div_pow]
 omega
theorem not_bv(u:BitVec 32):bits .xor .u32 IntKind.u32.max (u.toNat:Int)=((~~~u).toNat:Int):=by
 have h:=xor_bv 4294967295#32 u
 have e:4294967295#32^^^u= ~~~u:=BitVec.allOnes_xor
 rw[e] at h
 exact h
theorem st_walk(r:BitVec 32):bits .xor .u32 ((r.toNat:Int)/2) (bits .and .u32 3988292384 (-bits .and .u32 (r.toNat:Int) 1%4294967296))=((st r).toNat:Int):=by
 have h1:bits .and .u32 (r.toNat:Int) 1=(((r&&&1#32).toNat:Nat):Int):=and_bv r 1#32
 rw[h1,and_one,<-half_bv]
 unfold st
 by_cases h:r.getLsbD 0
 ·rw[if_pos h,if_pos h]
  have e:bits .and .u32 3988292384 (-((1:Nat):Int)%4294967296)=((3988292384#32).toNat:Int):=by decide+kernel
  rw[e,xor_bv]
 ·rw[if_neg h,if_neg h]
  have e:bits .and .u32 3988292384 (-((0:Nat):Int)%4294967296)=((0#32).toNat:Int):=by decide+kernel
  rw[e,xor_bv,BitVec.xor_zero]
theorem st_ref_one(r:BitVec 32)(h:r.getLsbD 0=true):bits .and .u32 (r.toNat:Int) 1=1/\bits .xor .u32 ((r.toNat:Int)/2) 3988292384=((st r).toNat:Int):=by
 have h1:bits .and .u32 (r.toNat:Int) 1=(((r&&&1#32).toNat:Nat):Int):=and_bv r 1#32
 refine⟨by rw[h1,and_one,if_pos h];rfl, ?_⟩
 have h2:=xor_bv (r>>>1) 3988292384#32
 rw[half_bv] at h2
 rw[st,if_pos h]
 exact h2
theorem st_ref_zero(r:BitVec 32)(h:¬r.getLsbD 0=true):bits .and .u32 (r.toNat:Int) 1=0/\(r.toNat:Int)/2=((st r).toNat:Int):=by
 have h1:bits .and .u32 (r.toNat:Int) 1=(((r&&&1#32).toNat:Nat):Int):=and_bv r 1#32
 refine⟨by rw[h1,and_one,if_neg h];rfl, ?_⟩
 rw[st,if_neg h,half_bv]
end Go.Proofs.YtdiljpdohmeceaaGreat.O
namespace Go.Proofs.YtdiljpdohmeceaaGreat.O
open Go.RowKit H
def four(n:Int):List Int:=[n%256,n/256%256,n/65536%256,n/16777216%256]
def unf(l:List Int):Int:=l.getD 0 0+l.getD 1 0*256+l.getD 2 0*65536+l.getD 3 0*16777216
theorem four_len(n:Int):(four n).length=4:=rfl
theorem four_wf(n:Int):Wf (four n):=by
 intro x hx
 simp only[four,List.mem_cons,List.not_mem_nil,or_false] at hx
 omega
theorem unf_four{n:Int}(h0:0<=n)(h1:n<4294967296):unf (four n)=n:=by
 simp only[four,unf,List.getD_cons_zero,List.getD_cons_succ]
 omega
theorem four_unf{l:List Int}(hl:l.length=4)(hw:Wf l):four (unf l)=l:=by
 match l,hl with
 |[a,b,c,d],_=>
  have ha:=hw a (by simp)
  have hb:=hw b (by simp)
  have hc:=hw c (by simp)
  have hd:=hw d (by simp)
  simp only[four,unf,List.getD_cons_zero,List.getD_cons_succ,List.cons.injEq,and_true]
  omega
theorem unf_le{l:List Int}(hw:Wf l):0<=unf l/\unf l<4294967296:=by
 have h:∀i,0<=l.getD i 0/\l.getD i 0<256:=by
  intro i
  rw[List.getD_eq_getElem?_getD]
  by_cases hi:i<l.length
  ·rw[List.getElem?_eq_getElem hi];exact hw _ (List.getElem_mem hi)
  ·rw[List.getElem?_eq_none (by omega)];simp
 have h0:=h 0
 have h1:=h 1
 have h2:=h 2
 have h3:=h 3
 unfold unf
 omega
theorem crc_le(l:List Int):0<=crc l/\crc l<4294967296:=by
 unfold crc
 have:=(~~~(crcF 4294967295#32 l)).isLt
 omega
theorem unf_take{l:List Int}{k:Nat}(h:4<=k):unf (l.take k)=unf l:=by
 have:∀i,i<4->(l.take k).getD i 0=l.getD i 0:=by
  intro i hi
  rw[List.getD_eq_getElem?_getD,List.getD_eq_getElem?_getD,List.getElem?_take_of_lt (by omega)]
 unfold unf
 rw[this 0 (by omega),this 1 (by omega),this 2 (by omega),this 3 (by omega)]
theorem unf_app{l r:List Int}(h:4<=l.length):unf (l++r)=unf l:=by
 rw[<-unf_take (l:=l++r) (k:=l.length) h,List.take_left']
 rfl
def head(n:Int):List Int:=four n++four (crc (four n))
theorem head_len(n:Int):(head n).length=8:=rfl
theorem head_wf(n:Int):Wf (head n):=by
 intro x hx
 rcases List.mem_append.1 hx with h|h
 ·exact four_wf _ x h
 ·exact four_wf _ x h
theorem wf_app{a b:List Int}(h1:Wf a)(h2:Wf b):Wf (a++b):=fun x hx=>by
 rcases List.mem_append.1 hx with h|h
 ·exact h1 x h
 ·exact h2 x h
def fEnc(p:List Int):List Int:=(head p.length++p)++four (crc (head p.length++p))
theorem fEnc_len(p:List Int):(fEnc p).length=p.length+12:=by
 simp only[fEnc,List.length_append,head_len,four_len]
 omega
theorem fEnc_wf{p:List Int}(h:Wf p):Wf (fEnc p):=wf_app (wf_app (head_wf _) h) (four_wf _)
def fDec(b:List Int):List Int×Nat×Int:=
 if b.length<8 then([],0,2)
 else if b.take 8≠head (unf b) then([],0,4)
 else if 1048576<unf b then([],0,5)
 else if b.length<12+(unf b).toNat then([],0,2)
 else if unf (b.drop (8+(unf b).toNat))≠crc (b.take (8+(unf b).toNat)) then([],0,4)
 else((b.take (8+(unf b).toNat)).drop 8,12+(unf b).toNat,0)
theorem unf_head{n:Int}(h0:0<=n)(h1:n<4294967296)(r:List Int):unf (head n++r)=n:=by
 rw[unf_app (by rw[head_len];omega),head,unf_app (by rw[four_len];omega),unf_four h0 h1]
theorem fDec_enc{p:List Int}(r:List Int)(hp:p.length<=1048576):fDec (fEnc p++r)=(p,p.length+12,0):=by
 have hu:unf (fEnc p++r)=p.length:=by
  rw[fEnc,List.append_assoc,List.append_assoc]
  exact unf_head (by omega) (by omega) _
 have hl:(fEnc p++r).length=p.length+12+r.length:=by rw[List.length_append,fEnc_len]
 have h8:(fEnc p++r).take 8=head p.length:=by
  rw[fEnc,List.append_assoc,List.append_assoc,List.take_left' (head_len _)]
 have ht:(fEnc p++r).take (8+p.length)=head p.length++p:=by
  rw[fEnc,List.append_assoc,List.take_left' (by rw[List.length_append,head_len])]
 have hd:(fEnc p++r).drop (8+p.length)=four (crc (head p.length++p))++r:=by
  rw[fEnc,List.append_assoc,List.drop_left' (by rw[List.length_append,head_len])]
 unfold fDec
 rw[hu,hl,h8,Int.toNat_natCast,if_neg (by omega),if_neg (by simp),if_neg (by omega),if_neg (by omega),ht,hd,unf_app (by rw[four_len];omega),
  unf_four (crc_le _).1 (crc_le _).2,if_neg (by simp),List.drop_left' (head_len _),Nat.add_comm 12]
theorem byte_map_inj:∀{xs ys:List Int},Wf xs->Wf ys->(xs.map fun n=>UInt8.ofNat n.toNat)=(ys.map fun n=>UInt8.ofNat n.toNat)->xs=ys
 |[],[],_,_,_=>rfl
 |[],_::_,_,_,h=>by simp at h
 |_::_,[],_,_,h=>by simp at h
 |x::xs,y::ys,h0,h1,h=>by
  simp only[List.map_cons,List.cons.injEq] at h
  have hx:=h0 x (by simp)
  have hy:=h1 y (by simp)
  have h2:=congrArg UInt8.toNat h.1
  simp only[UInt8.toNat_ofNat'] at h2
  have e:x=y:=by omega
  rw[e,byte_map_inj (fun z hz=>h0 z (by simp[hz])) (fun z hz=>h1 z (by simp[hz])) h.2]
theorem bits_or_u32_nat(a b:Nat)(ha:a<4294967296)(hb:b<4294967296):bits .or .u32 (a:Int) (b:Int)=((a|||b:Nat):Int):=by
 have hx:a|||b<2^32:=Nat.or_lt_two_pow (by omega) (by omega)
 have h1:(BitVec.ofInt 32 (a:Int)).toNat=a:=by
  rw[BitVec.ofInt_natCast,BitVec.toNat_ofNat];exact Nat.mod_eq_of_lt (by omega)
 have h2:(BitVec.ofInt 32 (b:Int)).toNat=b:=by
  rw[BitVec.ofInt_natCast,BitVec.toNat_ofNat];exact Nat.mod_eq_of_lt (by omega)
 show IntKind.u32.wrap ((BitVec.ofInt 32 (a:Int)|||BitVec.ofInt 32 (b:Int)).toNat:Int)=_
 rw[BitVec.toNat_or,h1,h2,IntKind.wrap_u32]
 omega
theorem or_sum(x y:Int)(i:Nat)(p:Nat)(hp:p=2^i)(hx:0<=x/\x<p)(hy:0<=y)(hb:y*p+x<4294967296):bits .or .u32 x (y*p)=y*p+x:=by
 obtain⟨x,rfl⟩:=Int.eq_ofNat_of_zero_le hx.1
 obtain⟨y,rfl⟩:=Int.eq_ofNat_of_zero_le hy
 have h:=Nat.two_pow_add_eq_or_of_lt (i:=i) (b:=x) (by omega) y
 rw[<-hp,Nat.mul_comm p y] at h
 have hb':y*p+x<4294967296:=by
  refine Int.ofNat_lt.1 ?_
  rw[Int.natCast_add,Int.natCast_mul]
  exact hb
 have e:((y:Int)*(p:Int))=((y*p:Nat):Int):=(Int.natCast_mul y p).symm
 rw[e,bits_or_u32_nat x (y*p) (by omega) (by omega),Nat.or_comm,<-h,Int.natCast_add]
theorem from_val(x0 x1 x2 x3:Int)(h0:0<=x0/\x0<256)(h1:0<=x1/\x1<256)(h2:0<=x2/\x2<256)(h3:0<=x3/\x3<256):
 bits BinOp.or IntKind.u32 (bits BinOp.or IntKind.u32 (bits BinOp.or IntKind.u32 (IntKind.u32.wrap x0) (IntKind.u32.wrap (IntKind.u32.wrap x1*256))) (IntKind.u32.wrap (IntKind.u32.wrap x2*65536))) (IntKind.u32.wrap (IntKind.u32.wrap x3*16777216))
  =x0+x1*256+x2*65536+x3*16777216:=by
 have e0:IntKind.u32.wrap x0=x0:=by rw[IntKind.wrap_u32];omega
 have e1:IntKind.u32.wrap x1=x1:=by rw[IntKind.wrap_u32];omega
 have e2:IntKind.u32.wrap x2=x2:=by rw[IntKind.wrap_u32];omega
 have e3:IntKind.u32.wrap x3=x3:=by rw[IntKind.wrap_u32];omega
 have f1:IntKind.u32.wrap (x1*256)=x1*256:=by rw[IntKind.wrap_u32];omega
 have f2:IntKind.u32.wrap (x2*65536)=x2*65536:=by rw[IntKind.wrap_u32];omega
 have f3:IntKind.u32.wrap (x3*16777216)=x3*16777216:=by rw[IntKind.wrap_u32];omega
 rw[e0,e1,e2,e3,f1,f2,f3]
 have g1:=or_sum x0 x1 8 256 rfl (by omega) h1.1 (by omega)
 rw[show((256:Nat):Int)=256 from rfl] at g1
 have g2:=or_sum (x1*256+x0) x2 16 65536 rfl (by omega) h2.1 (by omega)
 rw[show((65536:Nat):Int)=65536 from rfl] at g2
 have g3:=or_sum (x2*65536+(x1*256+x0)) x3 24 16777216 rfl (by omega) h3.1 (by omega)
 rw[show((16777216:Nat):Int)=16777216 from rfl] at g3
 rw[g1,g2,g3]
 omega
end Go.Proofs.YtdiljpdohmeceaaGreat.O
namespace Go.Proofs.YtdiljpdohmeceaaGreat.frame
open Go.RowKit H O
theorem four_any(v:Int)(w:World)(h0:0<=v)(h1:v<4294967296):Calls Tryz.prog 135 #[.int .u32 v] w fun e w'=>e= .returned (.slice (some ⟨w.heap.size,0,none⟩) 4 4)/\w'=w.alloc (.cells (iv .u8 (four v)).toArray 5):=by
 go_enter Tryz.func135,Tryz.ntmps135
 go_wp2
 go_ret
 have e:v/16777216%256=v/16777216:=by omega
 refine⟨rfl, ?_⟩
 show _=w.alloc (.cells #[.int .u8 (v%256),.int .u8 (v/256%256),.int .u8 (v/65536%256),.int .u8 (v/16777216%256)] 5)
 rw[e]
theorem from_any(A:Option Addr)(n c:Nat)(xs:List Int)(w:World)(hn:xs.length=n)(h0:Rd w A (iv .u8 xs))(hw:Wf xs)(h4:4<=n):Calls Tryz.prog 137 #[.slice A n c] w fun e w'=>e= .returned (.int .u32 (unf xs))/\∃k,w'=w.drewN k:=by
 obtain⟨a,rfl,d0⟩:=h0.int 0 (by omega)
 obtain⟨_,e,d1⟩:=h0.int 1 (by omega)
 cases e
 obtain⟨_,e,d2⟩:=h0.int 2 (by omega)
 cases e
 obtain⟨_,e,d3⟩:=h0.int 3 (by omega)
 cases e
 obtain⟨x0,h0'⟩:∃x,xs[0]=x:=⟨_,rfl⟩
 obtain⟨x1,h1'⟩:∃x,xs[1]=x:=⟨_,rfl⟩
 obtain⟨x2,h2'⟩:∃x,xs[2]=x:=⟨_,rfl⟩
 obtain⟨x3,h3'⟩:∃x,xs[3]=x:=⟨_,rfl⟩
 rw[h0'] at d0
 rw[h1'] at d1
 rw[h2'] at d2
 rw[h3'] at d3
 have k0:0<n:=by omega
 have k1:(1:Int)<(n:Int):=by omega
 have k2:(2:Int)<(n:Int):=by omega
 have k3:(3:Int)<(n:Int):=by omega
 obtain⟨b,o,s⟩:=a
 obtain rfl:s=none:=by simpa [Addr.add] using World.cell?_spot d0
 rw[Go.WideShapes.add_plain] at d0 d1 d2 d3
 rw[Nat.add_zero] at d0
 have HV:=As.mk (from_val x0 x1 x2 x3 (by rw[<-h0'];exact hw _ (List.getElem_mem _)) (by rw[<-h1'];exact hw _ (List.getElem_mem _)) (by rw[<-h2'];exact hw _ (List.getElem_mem _)) (by rw[<-h3'];exact hw _ (List.getElem_mem _)))
 have HU:As (unf xs=x0+x1*256+x2*65536+x3*16777216):=⟨by
  rw[<-h0',<-h1',<-h2',<-h3',unf]
  simp only[List.getD_eq_getElem?_getD]
  rw[List.getElem?_eq_getElem (by omega),List.getElem?_eq_getElem (by omega),List.getElem?_eq_getElem (by omega),List.getElem?_eq_getElem (by omega)]
  rfl⟩
 clear h0 hn h0' h1' h2' h3' hw
 go_enter Tryz.func137,Tryz.ntmps137
 go_wp2
 go_region_held3 (fun w'=>w'.cell? ⟨b,o,none⟩=some (.int .u8 x0)/\w'.cell? ⟨b,o+1,none⟩=some (.int .u8 x1)/\w'.cell? ⟨b,o+2,none⟩=some (.int .u8 x2)/\w'.cell? ⟨b,o+3,none⟩=some (.int .u8 x3)) (exact⟨d0,d1,d2,d3⟩) (fail)
 go_wp2
 go_ret
 rw[HU.out,<-HV.out]
 exact⟨rfl,1,rfl⟩
end Go.Proofs.YtdiljpdohmeceaaGreat.frame
