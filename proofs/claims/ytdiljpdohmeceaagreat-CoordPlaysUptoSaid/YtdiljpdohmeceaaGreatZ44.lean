/- Words and walks that this claim rests on: proved lemmas alone. -/
import Derived.Test.YtdiljpdohmeceaaGreatZ37
import Derived.Test.YtdiljpdohmeceaaGreatZ39
import Derived.Test.YtdiljpdohmeceaaGreatZ40
import Derived.Test.YtdiljpdohmeceaaGreatZ41
import Derived.Test.YtdiljpdohmeceaaGreatZ42
import Derived.Test.YtdiljpdohmeceaaGreatZ43
namespace Go.Proofs.YtdiljpdohmeceaaGreat.co
open Go.RowKit H O opk frame wir
open cr (RLay RsSt RNewJ RGrew Dis)
def dataL(x:ActV):List Int:=
 if x.what=1 then repBytes (bits BinOp.and IntKind.i64 x.err 7) [bits BinOp.and IntKind.i64 x.n 1] else if x.what=2 then num 1++row x.b else if x.what=3 then num 0 else if x.what=4 then mBytes x.l else x.b
theorem dataL_ok{x:ActV}(hw:Wf x.b)(hz:actSize x<=6003):Wf (dataL x)/\(dataL x).length<=39000:=by
 unfold actSize at hz
 unfold dataL
 split
 ·exact⟨wf_app (nums_u8 _) (nums_u8 _),by have:=repBytes_len (bits BinOp.and IntKind.i64 x.err 7) [bits BinOp.and IntKind.i64 x.n 1];omega⟩
 ·split
  ·have h1:=num_len 1
   have h2:=haystacklaw13.row_len x.b
   exact⟨wf_app (num_u8 _) (row_u8 _ hw),by rw[List.length_append];omega⟩
  ·split
   ·have h1:=num_len 0
    exact⟨num_u8 _,by omega⟩
   ·split
    ·have h1:=mBytes_len x.l
     exact⟨mBytes_wf _,by omega⟩
    ·exact⟨hw,by omega⟩
theorem data_any(w:World)(x:ActV)(A:Option Addr)(c:Nat)(B:Option Addr)(d:Nat)(hb:Rd w A (iv .u8 x.b))(hnil:A=none->c=0)(hl:Rd w B (mv x.l))(hz:actSize x<=6003):
 Calls Tryz.prog 67 #[.agg #[.int .i64 x.kind,.int .i64 x.n,.int .i64 x.err,.int .i64 x.hint,.int .i64 x.what,.int .i64 x.frm,.string x.key,.slice A x.b.length c,.slice B x.l.length d]] w (DatC w (dataL x)):=by
 obtain⟨kind,n,err,hint,what,frm,key,b,l⟩:=x
 unfold actSize at hz
 have hz:3+b.length+key.size+mSize l<=6003:=hz
 by_cases h1:what=1
 ·subst h1
  exact(data_one w kind n err hint frm key _ _).mono fun e w' h=>DatC.of h
 by_cases h2:what=2
 ·subst h2
  exact(data_two w kind n err hint frm key A b.length c b _ rfl hb hnil (by omega)).mono fun e w' h=>DatC.of h
 by_cases h3:what=3
 ·subst h3
  exact(data_three w kind n err hint frm key _ _).mono fun e w' h=>DatC.of h
 by_cases h4:what=4
 ·subst h4
  exact(data_four w kind n err hint frm key _ B l.length d l rfl hl (by omega)).mono fun e w' h=>DatC.of h
 ·have e:dataL ⟨kind,n,err,hint,what,frm,key,b,l⟩=b:=by
   show(if what=1 then _ else if what=2 then _ else if what=3 then _ else if what=4 then _ else b)=b
   rw[if_neg h1,if_neg h2,if_neg h3,if_neg h4]
  rw[e]
  exact data_else w kind n err hint what frm key A b.length c b _ rfl hb hnil (by omega)
theorem wayN_ok{ms m2:List Msg}(h:ms.length<=60)(h2:m2.length<=60):(wayN ms m2).length<=60\/m2.length>30:=by
 unfold wayN
 split
 ·rw[List.length_drop,List.length_append];omega
 ·rename_i hh
  left
  omega
theorem wayN_fr{ms m2:List Msg}(f:∀m∈ms,FrOk m.data)(f2:∀m∈m2,FrOk m.data):∀m∈wayN ms m2,FrOk m.data:=by
 have h:∀m∈ms++m2,FrOk m.data:=fun m hm=>(List.mem_append.1 hm).elim (f m) (f2 m)
 unfold wayN
 split
 ·exact fun m hm=>h m (List.mem_of_mem_drop hm)
 ·exact h
theorem and_low(x:Int):0<=bits BinOp.and IntKind.i64 x 65535/\bits BinOp.and IntKind.i64 x 65535<=65535:=by
 have e:bits .and .i64 x 65535=IntKind.i64.wrap ((BitVec.ofInt 64 x&&&BitVec.ofInt 64 65535).toNat:Int):=rfl
 have hle:(BitVec.ofInt 64 x&&&BitVec.ofInt 64 65535).toNat<=65535:=by
  rw[BitVec.toNat_and]
  have:(BitVec.ofInt 64 65535).toNat=65535:=by decide
  rw[this]
  exact Nat.and_le_right
 rw[e,IntKind.wrap_i64]
 omega
def ActPost(U:List Nat)(P:Nat)(L:Lay)(M:RLay)(cf:Cfg)(WV:Value)(k:Nat)(w:World)(e:Ending)(w':World):Prop:=
 e= .returned (.bool true)/\∃s' ms',Played U P L M cf WV s' ms' w w'/\PInv cf s' (k+1)/\ms'.length<=60/\∀m∈ms',FrOk m.data
theorem does_any(U:List Nat)(w:World)(P:Nat)(L:Lay)(M:RLay)(cf:Cfg)(s:Cs)(WV:Value)(ms:List Msg)(k:Nat)(x:ActV)(A:Option Addr)(c:Nat)(B:Option Addr)(d:Nat)(h:PairW U w P L M cf s WV ms)(inv:PInv cf s k)(hk:k<=9000)(h2:cf.shards.length<=2)(hms:ms.length<=60)(hfr:∀m∈ms,FrOk m.data)
 (hb:BSl (S0 P L M U) w (.slice A x.b.length c) x.b) (hl:Rd w B (mv x.l)) (hw:Wf x.b) (hz:actSize x<=6003):
 Calls Tryz.prog 20 #[.pointer (some ⟨P,0,none⟩),.agg #[.int .i64 x.kind,.int .i64 x.n,.int .i64 x.err,.int .i64 x.hint,.int .i64 x.what,.int .i64 x.frm,.string x.key,.slice A x.b.length c,.slice B x.l.length d]] w (ActPost U P L M cf WV k w):=by
 have hdat:=dataL_ok hw hz
 have hda:∀wX,Kp [] w wX->Calls Tryz.prog 67 #[.agg #[.int .i64 x.kind,.int .i64 x.n,.int .i64 x.err,.int .i64 x.hint,.int .i64 x.what,.int .i64 x.frm,.string x.key,.slice A x.b.length c,.slice B x.l.length d]] wX (DatC wX (dataL x)):=fun wX kX=>by
  obtain⟨A9,c9,e9,rr,_,_,hn⟩:=id hb
  obtain⟨rfl,_,rfl⟩:=Value.slice.inj e9
  exact data_any wX x _ _ _ _ (kX.rd_new rr.rd (by simp)) hn (kX.rd_new hl (by simp)) hz
 have hzz:x.b.length<=6000:=by unfold actSize at hz;omega
 obtain⟨kind,n,err,hint,what,frm,key,b,l⟩:=x
 have none_:∀s' w',Played U P L M cf WV s' ms w w'->PInv cf s' (k+1)->ActPost U P L M cf WV k w (.returned (.bool true)) w':=fun s' w' p i=>⟨rfl,s',ms,p,i,hms,hfr⟩
 by_cases h0:kind<1\/7<kind
 ·refine(does_none U w P L M cf s WV ms k kind n err hint what frm key _ _ h inv (by omega) h0).mono ?_
  rintro e w' ⟨rfl,p⟩
  exact none_ _ _ p (inv.le (by omega))
 rcases (by omega:kind=1\/kind=2\/kind=3\/kind=4\/kind=5\/kind=6\/kind=7) with rfl|rfl|rfl|rfl|rfl|rfl|rfl
 ·refine(does_put U w P L M cf s WV ms k n err hint what frm key A b.length c b _ h inv (by omega) rfl hb hw (by have:b.length<=6000:=hzz;omega)).mono ?_
  rintro e w' ⟨rfl,p⟩
  exact none_ _ _ p (inv.put hw)
 ·refine(does_delete_any U w P L M cf s WV ms k n err hint what frm key _ _ h inv (by omega)).mono ?_
  rintro e w' ⟨rfl,p⟩
  exact none_ _ _ p (inv.key (by show 1<=2/\2<=4;omega) rfl rfl)
 ·refine(does_get_any U w P L M cf s WV ms k n err hint what frm key _ _ h inv (by omega)).mono ?_
  rintro e w' ⟨rfl,p⟩
  exact none_ _ _ p (inv.key (by show 1<=3/\3<=4;omega) rfl rfl)
 ·refine(does_find U w P L M cf s WV ms k n err hint what frm key A b.length c b _ h inv (by omega) rfl hb hw (by have:b.length<=6000:=hzz;omega)).mono ?_
  rintro e w' ⟨rfl,p⟩
  exact none_ _ _ p (inv.find hw)
 ·refine(does_tick U w P L M cf s WV ms k n err hint what frm key _ _ h inv (by omega) h2 hms).mono ?_
  rintro e w' ⟨rfl,p⟩
  obtain⟨i1,i2,i3⟩:=inv.tick (by omega)
  exact⟨rfl,_,_,p,i1,(wayN_ok hms (by omega)).resolve_right (by omega),wayN_fr hfr i2⟩
 ·cases hm0:ms with
  |nil=>
   subst hm0
   refine(does_zero U w P L M cf s WV n err hint what frm key _ _ h).mono ?_
   rintro e w' ⟨rfl,p⟩
   exact⟨rfl,s,[],p,inv.le (by omega),by simp,by simp⟩
  |cons m0 mr=>
   have hpos:0<ms.length:=by rw[hm0];simp
   have hlow:=and_low n
   obtain⟨q,hq⟩:∃q:Nat,bits BinOp.and IntKind.i64 n 65535=(q:Int):=⟨(bits BinOp.and IntKind.i64 n 65535).toNat,by omega⟩
   have hi:q%ms.length<ms.length:=Nat.mod_lt _ hpos
   have hx:(bits BinOp.and IntKind.i64 n 65535).tmod (ms.length:Int)=((q%ms.length:Nat):Int):=by
    rw[hq,Int.tmod_eq_emod_of_nonneg (by omega)]
    rfl
   refine(does_reply U w P L M cf s WV ms k n err hint what frm key _ _ ms[q%ms.length] (q%ms.length) h inv (by omega) h2 hms hfr (List.getElem?_eq_getElem hi) hx (dataL ⟨6,n,err,hint,what,frm,key,b,l⟩) hdat.1 hdat.2 hda).mono ?_
   rintro e w' ⟨rfl,p⟩
   obtain⟨i1,i2,i3⟩:=reply_inv (m:=ms[q%ms.length]) (er:=bits BinOp.and IntKind.i64 err 15) (ht:=hint) (xs:=dataL ⟨6,n,err,hint,what,frm,key,b,l⟩) inv hdat.2
   exact⟨rfl,_,_,p,i1.le (by omega),(wayN_ok hms (by omega)).resolve_right (by omega),wayN_fr hfr i2⟩
 ·refine(does_raw U w P L M cf s WV ms k n err hint what frm key A b.length c b _ h inv (by omega) h2 hms rfl hb hw (by have:b.length<=6000:=hzz;omega)).mono ?_
  rintro e w' ⟨rfl,p⟩
  obtain⟨i1,i2,i3⟩:=inv.hear (m:=⟨frm,cf.id,b⟩) (by show b.length<=50000;have:b.length<=6000:=hzz;omega)
  exact⟨rfl,_,_,p,i1.le (by omega),(wayN_ok hms (by omega)).resolve_right (by omega),wayN_fr hfr i2⟩
end Go.Proofs.YtdiljpdohmeceaaGreat.co
