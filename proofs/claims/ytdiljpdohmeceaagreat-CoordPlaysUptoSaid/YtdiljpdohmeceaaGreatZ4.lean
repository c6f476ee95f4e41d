/- Words and walks that this claim rests on: proved lemmas alone. -/
import Derived.Lib.SliceRun
import Derived.Test.YtdiljpdohmeceaaGreatZ3
import Derived.ArgAppend
import Derived.Laws.ResultCell
set_option maxHeartbeats 16000000
set_option maxRecDepth 100000
namespace Go.Proofs.YtdiljpdohmeceaaGreat.H
open Go.RowKit
def Ri(S:List Nat)(w:World)(A:Option Addr)(l:List (List Int)):Prop:=
 ∀j (h:j<l.length),∃a Aj cj,A=some a/\a.block∉S/\w.cell? (a.add j)=some (.slice Aj l[j].length cj)/\l[j].length<=cj/\(Aj=none->cj=0)/\RdS S w Aj (iv .i64 l[j])
theorem RdS.kp2{S S2 T:List Nat}{w w1:World}{A:Option Addr}{vs:List Value}(h:RdS S w A vs)(k:Kp T w w1)(hT:∀x∈T,x∈S\/w.heap.size<=x)(hS:∀x∈S2,x∈S\/w.heap.size<=x):RdS S2 w1 A vs:=by
 intro j v hv
 obtain⟨a,rfl,h1,h2⟩:=h j v hv
 have hl:=World.block_lt_of_cell? w _ h2
 rw[add_block] at hl
 refine⟨a,rfl,fun hm=> ?_,k.cell h2 (by rw[add_block];intro hm;rcases hT _ hm with h|h;exact h1 h;omega)⟩
 rcases hS _ hm with h|h
 ·exact h1 h
 ·omega
theorem Ri.kp{S S2 T:List Nat}{w w1:World}{A:Option Addr}{l:List (List Int)}(h:Ri S w A l)(k:Kp T w w1)(hT:∀x∈T,x∈S\/w.heap.size<=x)(hS:∀x∈S2,x∈S\/w.heap.size<=x):Ri S2 w1 A l:=by
 intro j hj
 obtain⟨a,Aj,cj,rfl,h0,hc,h1,h2,h3⟩:=h j hj
 have hl:=World.block_lt_of_cell? w _ hc
 rw[add_block] at hl
 refine⟨a,Aj,cj,rfl,fun hm=> ?_,k.cell hc (by rw[add_block];intro hm;rcases hT _ hm with h|h;exact h0 h;omega),h1,h2,h3.kp2 k hT hS⟩
 rcases hS _ hm with h|h
 ·exact h0 h
 ·omega
theorem info_row:(Tryz.prog.info? 53).map (fun i=>(i.zero,i.size,i.bytes))=some (some (.slice none 0 0),1,24):=by kernel_rfl
theorem info_int:(Tryz.prog.info? 3).map (fun i=>(i.zero,i.size,i.bytes))=some (some (.int .i64 0),1,8):=by kernel_rfl
def OwnL(S:List Nat)(w:World)(lo:Nat)(v:Value)(l:List (List Int)):Prop:=
 ∃vs,w.ownsRow 0 53 1 v l.length vs/\(∀g,v.ownBlock=some g->lo<=g)/\
  ∀j (_:j<l.length),∃u,vs[j]?=some u/\Own 3 .i64 w lo u l[j]/\∀k,u.ownBlock=some k->k∉S/\v.ownBlock≠some k
theorem OwnL.nil(S:List Nat)(w:World)(lo:Nat):OwnL S w lo (.slice none 0 0) []:=⟨[],World.ownsRow_nil w 0 _ 1,by intro g hg;simp[Value.ownBlock] at hg,fun j h=>by simp at h⟩
theorem Own.lt{e:TypeId}{k:IntKind}{w:World}{lo:Nat}{v:Value}{xs:List Int}(h:Own e k w lo v xs){g:Nat}(hg:v.ownBlock=some g):lo<=g/\g<w.heap.size:=⟨h.2 g hg,own_lt h.1 g hg⟩
theorem OwnL.kp{S S2 T:List Nat}{w w1:World}{lo:Nat}{v:Value}{l:List (List Int)}(h:OwnL S w lo v l)(k:Kp T w w1)(hT:∀x∈T,x∈S\/w.heap.size<=x)(hg:∀g,v.ownBlock=some g->g∉T)(hS:∀x∈S2,x∈S\/x<lo\/w.heap.size<=x):OwnL S2 w1 lo v l:=by
 obtain⟨vs,h1,h2,h3⟩:=h
 refine⟨vs,k.own h1 hg,h2,fun j hj=> ?_⟩
 obtain⟨u,hu,ho,hk⟩:=h3 j hj
 refine⟨u,hu,ho.kp k (fun g hg hm=> ?_),fun g hg=>⟨fun hm=> ?_,(hk g hg).2⟩⟩
 ·rcases hT _ hm with e|e
  ·exact(hk g hg).1 e
  ·have:=(ho.lt hg).2;omega
 ·have h9:=ho.lt hg
  rcases hS _ hm with e|e|e
  ·exact(hk g hg).1 e
  ·omega
  ·omega
theorem OwnL.form{S:List Nat}{w:World}{lo:Nat}{v:Value}{l:List (List Int)}(h:OwnL S w lo v l):∃A c,v= .slice A l.length c/\l.length<=c/\c<=9223372036854775807/\(A=none->c=0)/\(∀a,A=some a->lo<=a.block/\a.block<w.heap.size):=by
 obtain⟨vs,h1,h2,h3⟩:=h
 obtain⟨A,c,rfl,a1,a2,_,a3⟩:=own_rd h1
 exact⟨A,c,rfl,a1,a2,a3,fun a ha=>⟨h2 a.block (by rw[ha];rfl),own_lt h1 a.block (by rw[ha];rfl)⟩⟩
theorem OwnL.ri{S S2:List Nat}{w:World}{lo:Nat}{A:Option Addr}{n c:Nat}{l:List (List Int)}(h:OwnL S w lo (.slice A n c) l)(hS:∀x∈S2,x∈S/\A.map Addr.block≠some x\/x<lo\/w.heap.size<=x):Ri S2 w A l:=by
 obtain⟨vs,h1,h2,h3⟩:=h
 obtain⟨A',c',hv,a1,a2,hr,a3⟩:=own_rd h1
 cases hv
 intro j hj
 obtain⟨u,hu,ho,hk⟩:=h3 j hj
 obtain⟨a,rfl,hc⟩:=hr j u hu
 have hl:=(own_lt h1 a.block rfl)
 have hlo:=h2 a.block rfl
 obtain⟨Aj,cj,rfl,b1,b2,hrj,b3⟩:=own_rd ho.1
 refine⟨a,Aj,cj,rfl,fun hm=> ?_,hc,b1,b3,fun i x hx=> ?_⟩
 ·rcases hS _ hm with e|e|e
  ·exact e.2 rfl
  ·omega
  ·omega
 ·obtain⟨aj,rfl,hcx⟩:=hrj i x hx
  have h9:=ho.lt (g:=aj.block) rfl
  refine⟨aj,rfl,fun hm=> ?_,hcx⟩
  rcases hS _ hm with e|e|e
  ·exact(hk _ rfl).1 e.1
  ·omega
  ·omega
theorem OwnL.snoc{S:List Nat}{w w1:World}{lo m:Nat}{v v1 u:Value}{l:List (List Int)}{xs:List Int}{vs:List Value}(hm:l.length=m)(h:OwnL S w lo v l)(hvs:w.ownsRow 0 53 1 v m vs)
 (hu:Own 3 .i64 w lo u xs) (hus:∀k,u.ownBlock=some k->k∉S/\v.ownBlock≠some k)
 (o1:w1.ownsRow 0 53 1 v1 (m+1) (vs++[u])) (k1:Kp v.ownBlock.toList w w1) (a1:At w.heap.size v.ownBlock v1.ownBlock) (hlo:lo<=w.heap.size):OwnL S w1 lo v1 (l++[xs]):=by
 subst hm
 obtain⟨vs',h1,h2,h3⟩:=h
 have e:vs'=vs:=by
  obtain⟨A,c,hv,_,_,r1,_⟩:=own_rd h1
  obtain⟨A',c',hv',_,_,r2,_⟩:=own_rd hvs
  rw[hv] at hv'
  cases hv'
  refine List.ext_getElem? fun i=> ?_
  by_cases hi:i<l.length
  ·have l1:vs'.length=l.length:=by simpa using h1.1
   have l2:vs.length=l.length:=by simpa using hvs.1
   have g1:vs'[i]?=some vs'[i]:=by simp
   have g2:vs[i]?=some vs[i]:=by simp
   obtain⟨a,ha,c1⟩:=r1 i _ g1
   obtain⟨a',ha',c2⟩:=r2 i _ g2
   rw[ha] at ha'
   cases ha'
   rw[g1,g2,<-c1,c2]
  ·have l1:vs'.length=l.length:=by simpa using h1.1
   have l2:vs.length=l.length:=by simpa using hvs.1
   rw[List.getElem?_eq_none (by omega),List.getElem?_eq_none (by omega)]
 subst e
 have lv:vs'.length=l.length:=by simpa using h1.1
 refine⟨vs'++[u],by simpa using o1,a1.ge hlo h2,fun j hj=> ?_⟩
 have hne:∀(y:Value) (ys:List Int),Own 3 .i64 w lo y ys->∀k,y.ownBlock=some k->v.ownBlock≠some k->v1.ownBlock≠some k:=by
  intro y ys hy k hk hv
  rcases a1 with e|⟨q,e,hq⟩
  ·rw[e];exact hv
  ·rw[e]
   have:=(hy.lt hk).2
   intro e2
   have:=Option.some.inj e2
   omega
 by_cases hj2:j<l.length
 ·obtain⟨y,hy,ho,hk⟩:=h3 j hj2
  refine⟨y,by rw[List.getElem?_append_left (by omega)];exact hy, ?_,fun k hk2=>⟨(hk k hk2).1,hne y _ ho k hk2 (hk k hk2).2⟩⟩
  rw[List.getElem_append_left hj2]
  refine ho.kp k1 (fun g hg hm=> ?_)
  exact(hk g hg).2 (by simpa using hm)
 ·obtain rfl:j=l.length:=by simp at hj;omega
  refine⟨u,by rw[List.getElem?_append_right (by omega)];simp[lv], ?_,fun k hk2=>⟨(hus k hk2).1,hne u _ hu k hk2 (hus k hk2).2⟩⟩
  rw[List.getElem_append_right (Nat.le_refl _)]
  simp only[Nat.sub_self,List.getElem_cons_zero]
  refine hu.kp k1 (fun g hg hm=> ?_)
  exact(hus g hg).2 (by simpa using hm)
end Go.Proofs.YtdiljpdohmeceaaGreat.H
namespace Go.Proofs.YtdiljpdohmeceaaGreat.clone
open Go.RowKit H
theorem ints_any(A:Option Addr)(n c:Nat)(xs:List Int)(w:World)(hn:xs.length=n)(h0:Rd w A (iv .i64 xs))(hnil:A=none->c=0)(hb:n<=17592186044416):
 Calls Tryz.prog 72 #[.slice A n c] w (RetOwn 3 .i64 w xs):=by
 subst hn
 have H0:=As.mk h0
 have HN:=As.mk hnil
 clear h0 hnil
 cases A with
 |none=>
  have hx:xs=[]:=iv_nil (rd_nil_of_none H0.out)
  subst hx
  have hc:=HN.out rfl
  subst hc
  have hq:=fun(w:World)=>Lib.run_eql_slice_nil (P:=Tryz.prog) w 53 3 none 0 0 0 0 Tryz.underlying53
  go_enter Tryz.func72,Tryz.ntmps72
  go_wp2
  go_ret
  exact⟨_,rfl,Own.nil _ _ _ _,Kp.refl _ _⟩
 |some a=>
  have hq:=fun(w:World)=>Lib.run_eql_slice_nil (P:=Tryz.prog) w 53 3 (some a) xs.length c 0 0 Tryz.underlying53
  go_enter Tryz.func72,Tryz.ntmps72
  go_wp2_with (at_builtin;refine opk.app64 rfl (.tmp 5) (.tmp 6) rfl (.slice (some ⟨w.heap.size,0,none⟩) 0 0) 0 [] rfl (own_new w [] _ (Nat.zero_le _)) (some a) xs.length c (iv .i64 xs) rfl (iv_len _ _) (((Kp.refl [] w).alloc _).rd_new H0.out (by simp)) (by simp) (iv_one _ _) (by omega) ?_;intro v' w1 hown hk hat;have HO:=As.mk hown;have HK:=As.mk hk;have HA:=As.mk hat;clear hown hk hat)
  go_ret
  exact⟨v',rfl,⟨by simpa using HO.out,HA.out.ge (by simp) (by simp[Value.ownBlock])⟩,((Kp.refl [] w).alloc _).trans HK.out (by simp[Value.ownBlock])⟩
end Go.Proofs.YtdiljpdohmeceaaGreat.clone
namespace Go.Proofs.YtdiljpdohmeceaaGreat.co
open Go.RowKit H O opk frame wir
def BSl(S:List Nat)(w:World)(v:Value)(xs:List Int):Prop:=∃A c,v= .slice A xs.length c/\RdS S w A (iv .u8 xs)/\xs.length<=c/\c<=9223372036854775807/\(A=none->c=0)
theorem BSl.kp{S S2 V:List Nat}{w w1:World}{v:Value}{xs:List Int}(h:BSl S w v xs)(k:Kp V w w1)(hV:∀x∈V,x∈S\/w.heap.size<=x)(hS:∀x∈S2,x∈S\/w.heap.size<=x):BSl S2 w1 v xs:=by
 obtain⟨A,c,rfl,h1,h2,h3,h4⟩:=h
 exact⟨A,c,rfl,h1.kp2 k hV hS,h2,h3,h4⟩
theorem BSl.nil(S:List Nat)(w:World):BSl S w (.slice none 0 0) []:=⟨none,0,rfl,(fun j v h=>by simp[iv] at h),Nat.le_refl _,by omega,fun _=>rfl⟩
theorem BSl.own{S:List Nat}{w:World}{lo:Nat}{v:Value}{xs:List Int}(h:Own 5 .u8 w lo v xs)(hS:∀x∈S,x<lo\/w.heap.size<=x):BSl S w v xs:=by
 obtain⟨A,c,rfl,h1,h2,h3,h4⟩:=own_rd h.1
 refine⟨A,c,rfl,fun j u hu=> ?_,h1,h2,h4⟩
 obtain⟨a,rfl,hc⟩:=h3 j u hu
 have h9:=h.lt (g:=a.block) rfl
 exact⟨a,rfl,fun hm=>by rcases hS _ hm with e|e<;>omega,hc⟩
def MSl(S:List Nat)(w:World)(v:Value)(l:List (ByteArray×Int)):Prop:=∃A c,v= .slice A l.length c/\RdS S w A (mv l)/\l.length<=c/\c<=9223372036854775807/\(A=none->c=0)
theorem MSl.kp{S S2 V:List Nat}{w w1:World}{v:Value}{l:List (ByteArray×Int)}(h:MSl S w v l)(k:Kp V w w1)(hV:∀x∈V,x∈S\/w.heap.size<=x)(hS:∀x∈S2,x∈S\/w.heap.size<=x):MSl S2 w1 v l:=by
 obtain⟨A,c,rfl,h1,h2,h3,h4⟩:=h
 exact⟨A,c,rfl,h1.kp2 k hV hS,h2,h3,h4⟩
theorem MSl.nil(S:List Nat)(w:World):MSl S w (.slice none 0 0) []:=⟨none,0,rfl,(fun j v h=>by simp[mv] at h),Nat.le_refl _,by omega,fun _=>rfl⟩
theorem MSl.own{S:List Nat}{w:World}{v:Value}{l:List (ByteArray×Int)}(h:w.ownsRow 0 73 2 v l.length (mv l))(hS:∀g,v.ownBlock=some g->g∉S):MSl S w v l:=by
 obtain⟨A,c,rfl,h1,h2,h3,h4⟩:=own_rd h
 refine⟨A,c,rfl,fun j u hu=> ?_,h1,h2,h4⟩
 obtain⟨a,rfl,hc⟩:=h3 j u hu
 exact⟨a,rfl,hS _ rfl,hc⟩
def okind(j:Job):Int:=if j.kind=1 then 1 else if j.kind=2 then 2 else 0
def okey(j:Job):ByteArray:=if j.kind=1 then j.key else if j.kind=2 then j.key else⟨#[]⟩
def otext(j:Job):List Int:=if j.kind=1 then j.text else[]
def ddat(j:Job):List Int:=if j.kind=3 then kb j.key else if j.kind=4 then j.text else[]
def JobAt(S:List Nat)(w:World)(p:Nat)(id m:Nat)(j:Job)(MV AV:Value):Prop:=
 ∃tv dv,w.heap[p]?=some (.cells #[.int .i64 (m:Int),.int .i64 0,.bool false,.bool false,.slice none 0 0,MV,.int .i64 (wkind j),.int .i64 (okind j),.int .i64 (id:Int),.int .i64 ((m:Int)+1),.string (okey j),tv,dv,AV] 92 (0,0))/\
  BSl S w tv (otext j)/\BSl S w dv (ddat j)
theorem JobAt.kp{S S2 V:List Nat}{w w1:World}{p id m:Nat}{j:Job}{MV AV:Value}(h:JobAt S w p id m j MV AV)(k:Kp V w w1)(hp:p∉V)(hV:∀x∈V,x∈S\/w.heap.size<=x)(hS:∀x∈S2,x∈S\/w.heap.size<=x):JobAt S2 w1 p id m j MV AV:=by
 obtain⟨tv,dv,h1,h2,h3⟩:=h
 exact⟨tv,dv,k.blk h1 hp,h2.kp k hV hS,h3.kp k hV hS⟩
def AskAt(S:List Nat)(w:World)(p:Nat)(a:Ask):Prop:=
 ∃(kd:Int) (dv fv:Value),w.heap[p]?=some (.cells #[.int .i64 kd,.int .i64 (a.ctx:Int),.int .i64 (a.shard:Int),dv,fv,.int .i64 (a.waited:Int),.int .i64 (a.tried:Int),.bool a.hinted,.bool a.answered] 101 (0,0))/\BSl S w fv a.frame
theorem AskAt.kp{S S2 V:List Nat}{w w1:World}{p:Nat}{a:Ask}(h:AskAt S w p a)(k:Kp V w w1)(hp:p∉V)(hV:∀x∈V,x∈S\/w.heap.size<=x)(hS:∀x∈S2,x∈S\/w.heap.size<=x):AskAt S2 w1 p a:=by
 obtain⟨kd,dv,fv,h1,h2⟩:=h
 exact⟨kd,dv,fv,k.blk h1 hp,h2.kp k hV hS⟩
def ptr(p:Nat):Value:= .pointer (some ⟨p,0,none⟩)
def Que(w:World)(v:Value)(g:Option Nat)(ps:List Nat):Prop:=
 (g=none/\v= .slice none 0 0/\ps=[])\/
 ∃b o c cur,g=some b/\v= .slice (some ⟨b,o,none⟩) ps.length c/\w.heap[b]?=some (.cells cur 88 (0,0))/\ps.length<=c/\o+c<=cur.size/\c<=maxLen/\∀i p,ps[i]?=some p->cur[o+i]?=some (ptr p)
theorem Que.kp{V:List Nat}{w w1:World}{v:Value}{g:Option Nat}{ps:List Nat}(h:Que w v g ps)(k:Kp V w w1)(hg:∀x,g=some x->x∉V):Que w1 v g ps:=by
 rcases h with h|⟨b,o,c,cur,rfl,h2,h3,h4⟩
 ·exact .inl h
 ·exact .inr ⟨b,o,c,cur,rfl,h2,k.blk h3 (hg b rfl),h4⟩
theorem Que.lt{w:World}{v:Value}{g:Option Nat}{ps:List Nat}(h:Que w v g ps):∀x,g=some x->x<w.heap.size:=by
 rcases h with⟨rfl,_⟩|⟨b,o,c,cur,rfl,h2,h3,h4⟩
 ·intro x hx;cases hx
 ·intro x hx;cases hx;exact lt_of_block h3
theorem Que.cell{w:World}{v:Value}{g:Option Nat}{ps:List Nat}(h:Que w v g ps){i p:Nat}(hp:ps[i]?=some p):∃b o c,v= .slice (some ⟨b,o,none⟩) ps.length c/\w.cell? ⟨b,o+i,none⟩=some (ptr p):=by
 rcases h with⟨_,_,rfl⟩|⟨b,o,c,cur,rfl,h2,h3,h4,h5,h6,h7⟩
 ·simp at hp
 ·exact⟨b,o,c,h2,bkc h3 _ (h7 i p hp)⟩
def ResOk(S:List Nat)(w:World)(r:Res)(vs:List Value):Prop:=
 ∃tv MV,vs=[.int .i64 (r.job:Int),.int .i64 r.err,.bool r.was,.bool r.has,tv,MV]/\BSl S w tv r.text/\MSl S w MV r.ms
theorem ResOk.kp{S S2 V:List Nat}{w w1:World}{r:Res}{vs:List Value}(h:ResOk S w r vs)(k:Kp V w w1)(hV:∀x∈V,x∈S\/w.heap.size<=x)(hS:∀x∈S2,x∈S\/w.heap.size<=x):ResOk S2 w1 r vs:=by
 obtain⟨tv,MV,h1,h2,h3⟩:=h
 exact⟨tv,MV,h1,h2.kp k hV hS,h3.kp k hV hS⟩
def RsOk(S:List Nat)(w:World):List Res->List Value->Prop
 |[],vs=>vs=[]
 |r::l,vs=>∃a b,vs=a++b/\ResOk S w r a/\RsOk S w l b
theorem RsOk.kp{S S2 V:List Nat}{w w1:World}(k:Kp V w w1)(hV:∀x∈V,x∈S\/w.heap.size<=x)(hS:∀x∈S2,x∈S\/w.heap.size<=x):∀{l:List Res} {vs:List Value},RsOk S w l vs->RsOk S2 w1 l vs
 |[],_,h=>h
 |_::_,_,⟨a,b,h1,h2,h3⟩=>⟨a,b,h1,h2.kp k hV hS,RsOk.kp k hV hS h3⟩
theorem RsOk.snoc{S:List Nat}{w:World}{r:Res}{a:List Value}(hr:ResOk S w r a):∀{l:List Res} {vs:List Value},RsOk S w l vs->RsOk S w (l++[r]) (vs++a)
 |[],vs,h=>by
  obtain rfl:vs=[]:=h
  exact⟨a,[],by simp,hr,rfl⟩
 |_::_,_,⟨p,q,h1,h2,h3⟩=>by
  subst h1
  exact⟨p,q++a,by simp,h2,RsOk.snoc hr h3⟩
def DoneAt(S:List Nat)(w:World)(v:Value)(g:Option Nat)(l:List Res):Prop:=
 ∃vs,w.ownsRow 0 61 6 v l.length vs/\v.ownBlock=g/\RsOk S w l vs
theorem DoneAt.kp{S S2 V:List Nat}{w w1:World}{v:Value}{g:Option Nat}{l:List Res}(h:DoneAt S w v g l)(k:Kp V w w1)(hg:∀x,g=some x->x∉V)(hV:∀x∈V,x∈S\/w.heap.size<=x)(hS:∀x∈S2,x∈S\/w.heap.size<=x):DoneAt S2 w1 v g l:=by
 obtain⟨vs,h1,rfl,h3⟩:=h
 exact⟨vs,k.own h1 hg,rfl,h3.kp k hV hS⟩
def Shd(S:List Nat)(w:World)(v:Value)(l:List (List Int)):Prop:=∃A c,v= .slice A l.length c/\Ri S w A l/\l.length<=c/\c<=9223372036854775807/\(A=none->c=0)
theorem Shd.kp{S S2 V:List Nat}{w w1:World}{v:Value}{l:List (List Int)}(h:Shd S w v l)(k:Kp V w w1)(hV:∀x∈V,x∈S\/w.heap.size<=x)(hS:∀x∈S2,x∈S\/w.heap.size<=x):Shd S2 w1 v l:=by
 obtain⟨A,c,rfl,h1,h2,h3,h4⟩:=h
 exact⟨A,c,rfl,h1.kp k hV hS,h2,h3,h4⟩
structure Lay where
 b:Nat
 gw:Nat
 gj:Option Nat
 gd:Option Nat
 ga:Option Nat
 gm:Option Nat
 js:List Nat
 az:List Nat
def Lay.all(L:Lay):List Nat:=L.b::L.gw::(L.gj.toList++L.gd.toList++L.ga.toList++L.gm.toList++L.js++L.az)
structure Sep(U:List Nat)(L:Lay)(κ:Nat->Nat)(n:Nat):Prop where
 b:κ L.b=1/\L.b<n
 gw:κ L.gw=2/\L.gw<n
 gj:∀x,L.gj=some x->κ x=3/\x<n
 gd:∀x,L.gd=some x->κ x=4/\x<n
 ga:∀x,L.ga=some x->κ x=5/\x<n
 gm:∀x,L.gm=some x->κ x=6/\x<n
 js:∀x∈L.js,κ x=7/\x<n
 az:∀x∈L.az,κ x=8/\x<n
 jn:L.js.Nodup
 an:L.az.Nodup
 U:∀x∈U,κ x=0/\x<n
theorem Lay.mem{L:Lay}{x:Nat}:x∈L.all↔x=L.b\/x=L.gw\/L.gj=some x\/L.gd=some x\/L.ga=some x\/L.gm=some x\/x∈L.js\/x∈L.az:=by
 simp[Lay.all]
theorem Sep.pos{U:List Nat}{L:Lay}{κ:Nat->Nat}{n x:Nat}(h:Sep U L κ n)(hx:x∈L.all):1<=κ x/\x<n:=by
 rcases Lay.mem.1 hx with rfl|rfl|e|e|e|e|e|e
 ·have:=h.b;omega
 ·have:=h.gw;omega
 ·have:=h.gj x e;omega
 ·have:=h.gd x e;omega
 ·have:=h.ga x e;omega
 ·have:=h.gm x e;omega
 ·have:=h.js x e;omega
 ·have:=h.az x e;omega
theorem Sep.foreign{U U2:List Nat}{L:Lay}{κ:Nat->Nat}{n m:Nat}(h:Sep U L κ n)(hm:n<=m)(hU:∀x∈U2,x∈U\/n<=x/\x<m):Sep U2 L (fun x=>if x<n then κ x else 0) m:=by
 have lo:∀x c,κ x=c/\x<n->(if x<n then κ x else 0)=c/\x<m:=fun x c hx=>by rw[if_pos hx.2];exact⟨hx.1,by omega⟩
 refine⟨lo _ _ h.b,lo _ _ h.gw,fun x e=>lo _ _ (h.gj x e),fun x e=>lo _ _ (h.gd x e),fun x e=>lo _ _ (h.ga x e),fun x e=>lo _ _ (h.gm x e),fun x e=>lo _ _ (h.js x e),fun x e=>lo _ _ (h.az x e),h.jn,h.an,fun x hx=> ?_⟩
 show(if x<n then κ x else 0)=0/\x<m
 rcases hU x hx with e|e
 ·have:=h.U x e
  rw[if_pos this.2]
  exact⟨this.1,by omega⟩
 ·rw[if_neg (by omega)]
  exact⟨rfl,e.2⟩
theorem Sep.grow{U:List Nat}{L:Lay}{κ:Nat->Nat}{n m:Nat}(h:Sep U L κ n)(hm:n<=m):Sep U L κ m:=by
 have lo:∀x c,κ x=c/\x<n->κ x=c/\x<m:=fun x c hx=>⟨hx.1,by omega⟩
 exact⟨lo _ _ h.b,lo _ _ h.gw,fun x e=>lo _ _ (h.gj x e),fun x e=>lo _ _ (h.gd x e),fun x e=>lo _ _ (h.ga x e),fun x e=>lo _ _ (h.gm x e),fun x e=>lo _ _ (h.js x e),fun x e=>lo _ _ (h.az x e),h.jn,h.an,fun x e=>lo _ _ (h.U x e)⟩
structure CoP(U:List Nat)(w:World)(L:Lay)(cf:Cfg)(s:Cs)(κ:Nat->Nat)(VS VW VJ VD MV AV:Value)(l:List (ByteArray×Int)):Prop where
 sep:Sep U L κ w.heap.size
 hd:w.heap[L.b]?=some (.cells #[.int .i64 (cf.id:Int),.int .i64 (cf.pat:Int),.int .i64 (cf.tries:Int),VS,VW,VJ,.int .i64 (nextJ s:Int),.int .i64 (s.ctx:Int),VD] 95 (0,0))
 sh:Shd (L.all++U) w VS cf.shards
 wh:w.ownsRow 0 3 1 VW s.whom.length (iv .i64 (s.whom.map fun(n:Nat)=>(n:Int)))/\VW.ownBlock=some L.gw
 jq:Que w VJ L.gj L.js
 dn:DoneAt (L.all++U) w VD L.gd s.done
 jl:L.js.length=s.jobs.length
 ja:∀(i:Nat) (j:Job) (p:Nat),s.jobs[i]?=some j->L.js[i]?=some p->JobAt (L.all++U) w p cf.id (s.ended+i) j (if i=0 then MV else .slice none 0 0) (if i=0 then AV else .slice none 0 0)
 al:L.az.length=s.asks.length
 aa:∀(i:Nat) (a:Ask) (p:Nat),s.asks[i]?=some a->L.az[i]?=some p->AskAt (L.all++U) w p a
 aq:w.ownsRow 0 97 1 AV L.az.length (L.az.map ptr)/\AV.ownBlock=L.ga
 mq:w.ownsRow 0 73 2 MV l.length (mv l)/\MV.ownBlock=L.gm/\l.Perm (s.asks.flatMap (·.ms))
 no:s.asks=[]->AV= .slice none 0 0/\MV= .slice none 0 0
def CoSt(U:List Nat)(w:World)(L:Lay)(cf:Cfg)(s:Cs):Prop:=∃κ VS VW VJ VD MV AV l,CoP U w L cf s κ VS VW VJ VD MV AV l
theorem CoP.kp{U U2 V:List Nat}{w w1:World}{L:Lay}{cf:Cfg}{s:Cs}{κ:Nat->Nat}{VS VW VJ VD MV AV:Value}{l:List (ByteArray×Int)}(h:CoP U w L cf s κ VS VW VJ VD MV AV l)(k:Kp V w w1)
 (hV:∀x∈V,x∈U\/w.heap.size<=x) (hU:∀x∈U2,x∈U\/w.heap.size<=x/\x<w1.heap.size):CoP U2 w1 L cf s (fun x=>if x<w.heap.size then κ x else 0) VS VW VJ VD MV AV l:=by
 have nV:∀x,x∈L.all->x∉V:=by
  intro x hx hm
  have h1:=h.sep.pos hx
  rcases hV x hm with e|e
  ·have:=(h.sep.U x e).1;omega
  ·omega
 have hV':∀x∈V,x∈L.all++U\/w.heap.size<=x:=fun x hx=>(hV x hx).imp (fun e=>List.mem_append.2 (.inr e)) id
 have hS':∀x∈L.all++U2,x∈L.all++U\/w.heap.size<=x:=by
  intro x hx
  rcases List.mem_append.1 hx with e|e
  ·exact .inl (List.mem_append.2 (.inl e))
  ·exact(hU x e).imp (fun e=>List.mem_append.2 (.inr e)) (fun e=>e.1)
 have mem:=fun x=>(Lay.mem (L:=L) (x:=x)).2
 exact⟨h.sep.foreign k.size hU,k.blk h.hd (nV _ (mem _ (.inl rfl))),h.sh.kp k hV' hS',⟨k.own h.wh.1 (fun x e=>nV x (mem x (.inr (.inl (by rw[h.wh.2] at e;exact(Option.some.inj e).symm))))),h.wh.2⟩,
  h.jq.kp k (fun x e=>nV x (mem x (by simp[e]))),h.dn.kp k (fun x e=>nV x (mem x (by simp[e]))) hV' hS',h.jl,
  fun i j p h1 h2=>(h.ja i j p h1 h2).kp k (nV p (mem p (by simp[List.mem_of_getElem? h2]))) hV' hS',h.al,fun i a p h1 h2=>(h.aa i a p h1 h2).kp k (nV p (mem p (by simp[List.mem_of_getElem? h2]))) hV' hS',
  ⟨k.own h.aq.1 (fun x e=>nV x (mem x (by rw[h.aq.2] at e;simp[e]))),h.aq.2⟩,⟨k.own h.mq.1 (fun x e=>nV x (mem x (by rw[h.mq.2.1] at e;simp[e]))),h.mq.2⟩,h.no⟩
theorem CoSt.kp{U U2 V:List Nat}{w w1:World}{L:Lay}{cf:Cfg}{s:Cs}(h:CoSt U w L cf s)(k:Kp V w w1)(hV:∀x∈V,x∈U\/w.heap.size<=x)(hU:∀x∈U2,x∈U\/w.heap.size<=x/\x<w1.heap.size):CoSt U2 w1 L cf s:=by
 obtain⟨κ,VS,VW,VJ,VD,MV,AV,l,h⟩:=h
 exact⟨_,_,_,_,_,_,_,_,h.kp k hV hU⟩
end Go.Proofs.YtdiljpdohmeceaaGreat.co
namespace Go.Proofs.YtdiljpdohmeceaaGreat.co
open Go.RowKit H O opk frame
theorem cloneb_any(A:Option Addr)(n c:Nat)(xs:List Int)(w:World)(hn:xs.length=n)(h0:Rd w A (iv .u8 xs))(hnil:A=none->c=0)(hb:n<=140737488351232):
 Calls Tryz.prog 29 #[.slice A n c] w (RetOwn 5 .u8 w xs):=by
 subst hn
 have H0:=As.mk h0
 have HN:=As.mk hnil
 clear h0 hnil
 cases A with
 |none=>
  have hx:xs=[]:=iv_nil (rd_nil_of_none H0.out)
  subst hx
  have hc:=HN.out rfl
  subst hc
  have hq:=fun(w:World)=>Lib.run_eql_slice_nil (P:=Tryz.prog) w 24 5 none 0 0 0 0 Tryz.underlying24
  go_enter Tryz.func29,Tryz.ntmps29
  go_wp2
  go_ret
  exact⟨_,rfl,Own.nil _ _ _ _,Kp.refl _ _⟩
 |some a=>
  have hq:=fun(w:World)=>Lib.run_eql_slice_nil (P:=Tryz.prog) w 24 5 (some a) xs.length c 0 0 Tryz.underlying24
  go_enter Tryz.func29,Tryz.ntmps29
  go_wp2_with (at_builtin;refine clone.app8 rfl (.tmp 5) (.tmp 6) rfl (.slice (some ⟨w.heap.size,0,none⟩) 0 0) 0 [] rfl (own_new w [] _ (Nat.zero_le _)) (some a) xs.length c (iv .u8 xs) rfl (by rw[iv_len]) (((Kp.refl [] w).alloc _).rd_new H0.out (by simp)) HN.out (iv_one _ _) (by omega) ?_;intro v1 w1 o1 k1 a1;have HO1:=As.mk o1;have HK1:=As.mk k1;have HA1:=As.mk a1;clear o1 k1 a1)
  go_ret
  exact⟨_,rfl,own_of_app rfl HO1.out HA1.out (by simp) (by intro x hx;simp[Value.ownBlock] at hx;omega),kp_of_new HK1.out⟩
end Go.Proofs.YtdiljpdohmeceaaGreat.co
namespace Go.Proofs.YtdiljpdohmeceaaGreat.co
open Go.RowKit H O opk frame wir
def M3(w:World)(R:Nat)(a b v:Value):Prop:=w.heap[R]?=some (.cells #[a,b,v] 44)
theorem M3.kp{S:List Nat}{w w1:World}{R:Nat}{a b v:Value}(h:M3 w R a b v)(hk:Kp S w w1)(hb:R∉S):M3 w1 R a b v:=hk.blk h hb
theorem M3.set{w:World}{R:Nat}{a b v:Value}(h:M3 w R a b v)(a2 b2 v2:Value):
 M3 (((w.setCell ⟨R,0,none⟩ a2).setCell ⟨R,1,none⟩ b2).setCell ⟨R,2,none⟩ v2) R a2 b2 v2/\Kp [R] w (((w.setCell ⟨R,0,none⟩ a2).setCell ⟨R,1,none⟩ b2).setCell ⟨R,2,none⟩ v2):=by
 have e1:M3 (w.setCell ⟨R,0,none⟩ a2) R a2 b v:=heap_setCell_same w R 0 _ _ a2 h
 have e2:M3 ((w.setCell ⟨R,0,none⟩ a2).setCell ⟨R,1,none⟩ b2) R a2 b2 v:=heap_setCell_same _ R 1 _ _ b2 e1
 exact⟨heap_setCell_same _ R 2 _ _ v2 e2,(((Kp.refl _ w).setCell (.inl (by simp)) _).setCell (.inl (by simp)) _).setCell (.inl (by simp)) _⟩
theorem M3.res{fn:Func}{tmps:Array Value}{w:World}{R:Nat}{a b v:Value}(h:M3 w R a b v)(hf:fn.results= #[.cell 4 44])(h2:tmps.getD 4 undef= .pointer (some ⟨R,0,none⟩)):
 (results fn tmps).run Tryz.prog w= .ok (.agg #[a,b,v]) w:=
 results_cell_row hf tmps w R _ _ (0,0) _ h2 h Tryz.underlying44 rfl (by kernel_rfl)
theorem ri_at{S:List Nat}{w:World}{A:Option Addr}{l:List (List Int)}(h:Ri S w A l)(j:Nat)(hj:j<l.length):∃b o Aj cj,A=some ⟨b,o,none⟩/\b∉S/\w.cell? ⟨b,o+j,none⟩=some (.slice Aj l[j].length cj)/\l[j].length<=cj/\RdS S w Aj (iv .i64 l[j]):=by
 obtain⟨a,Aj,cj,ha,h0,c0,h1,_,h2⟩:=h j hj
 obtain⟨z,_,_,hz,_,cz,_⟩:=h 0 (by omega)
 rw[ha] at hz
 cases hz
 obtain⟨b,o,s⟩:=a
 obtain rfl:s=none:=by simpa [Addr.add] using World.cell?_spot cz
 rw[Go.WideShapes.add_plain] at c0
 exact⟨b,o,Aj,cj,ha,h0,c0,h1,h2⟩
theorem nodup_idx{l:List Nat}(h:l.Nodup){i j x:Nat}(hi:l[i]?=some x)(hj:l[j]?=some x):i=j:=by
 obtain⟨l1,e1⟩:=List.getElem?_eq_some_iff.1 hi
 obtain⟨l2,e2⟩:=List.getElem?_eq_some_iff.1 hj
 have hp:=List.pairwise_iff_getElem.1 h
 rcases Nat.lt_trichotomy i j with e|e|e
 ·exact absurd (e1.trans e2.symm) (hp i j l1 l2 e)
 ·exact e
 ·exact absurd (e2.trans e1.symm) (hp j i l2 l1 e)
theorem CoP.dest{U:List Nat}{w:World}{L:Lay}{cf:Cfg}{s:Cs}{κ:Nat->Nat}{VS VW VJ VD MV AV:Value}{l:List (ByteArray×Int)}(h:CoP U w L cf s κ VS VW VJ VD MV AV l)(ok:CsOk cf s){sh:Nat}(hs:sh<cf.shards.length):
 ∃(b o cS Ab Ao nj cj cw wi:Nat),VS= .slice (some ⟨b,o,none⟩) cf.shards.length cS/\b∉L.all++U/\w.cell? ⟨b,o+sh,none⟩=some (.slice (some ⟨Ab,Ao,none⟩) nj cj)/\Ab∉L.all++U/\
  VW= .slice (some ⟨L.gw,0,none⟩) s.whom.length cw/\w.cell? ⟨L.gw,sh,none⟩=some (.int .i64 (wi:Int))/\w.frozen? ⟨L.gw,sh,none⟩=false/\s.whom.getD sh 0=wi/\wi<nj/\nj<=7/\(cf.shards.getD sh []).length=nj/\
  (∀k,k<nj->w.cell? ⟨Ab,Ao+k,none⟩=some (.int .i64 ((cf.shards.getD sh []).getD k 0))):=by
 obtain⟨A,cS,rfl,hri,_,_,_⟩:=h.sh
 obtain⟨b,o,Aj,cj,rfl,hb,c0,_,hrd⟩:=ri_at hri sh hs
 have hw:sh<s.whom.length:=by rw[ok.wlen];exact hs
 have hlt:=ok.whom sh hw hs
 have hg:=(ok.cfg.grp _ (List.getElem_mem hs)).1
 have e1:cf.shards.getD sh []=cf.shards[sh]:=by simp[List.getD,hs]
 have e2:s.whom.getD sh 0=s.whom[sh]:=by simp[List.getD,hw]
 obtain⟨ho,hbk⟩:=h.wh
 obtain⟨g,cw,rfl,_,_⟩:=own_form ho (by omega)
 have hgw:g=L.gw:=by simpa [Value.ownBlock] using hbk
 subst hgw
 have cw1:=ho.cellAt sh (by omega)
 rw[show(iv .i64 (s.whom.map fun(n:Nat)=>(n:Int)))[sh]?=some (.int .i64 (s.whom[sh]:Int)) from by simp[iv,hw]] at cw1
 obtain⟨b2,o2,rfl,c2⟩:=int_at hrd.rd 0 (by omega)
 obtain⟨a',ha',hn',_⟩:=hrd 0 _ (iv_get .i64 cf.shards[sh] 0 (by omega))
 cases ha'
 refine⟨b,o,cS,b2,o2,cf.shards[sh].length,cj,cw,s.whom[sh],rfl,hb,c0,hn',rfl,cw1,ho.frozenAt sh,e2,hlt,hg.2,by rw[e1],fun k hk=> ?_⟩
 obtain⟨b3,o3,e3,c3⟩:=int_at hrd.rd k hk
 cases e3
 rw[c3,e1]
 simp[List.getD,hk]
theorem CoP.ask{U:List Nat}{w w1:World}{L:Lay}{cf:Cfg}{s:Cs}{κ:Nat->Nat}{VS VW VJ VD MV AV:Value}{l:List (ByteArray×Int)}(h:CoP U w L cf s κ VS VW VJ VD MV AV l){i p:Nat}{a a':Ask}(hp:L.az[i]?=some p)(ha:s.asks[i]?=some a)
 (k:Kp [p] w w1) (hn:AskAt (L.all++U) w1 p a') (hms:a'.ms=a.ms):CoP U w1 L cf {s with asks:=s.asks.set i a'} κ VS VW VJ VD MV AV l:=by
 have hk8:=h.sep.az p (List.mem_of_getElem? hp)
 have hpa:p∈L.all:=Lay.mem.2 (by simp[List.mem_of_getElem? hp])
 have hV':∀x∈[p],x∈L.all++U\/w.heap.size<=x:=fun x hx=>by
  simp only[List.mem_singleton] at hx
  subst hx
  exact .inl (List.mem_append.2 (.inl hpa))
 have hS':∀x∈L.all++U,x∈L.all++U\/w.heap.size<=x:=fun x hx=> .inl hx
 have ne:∀x c,κ x=c->c≠8->x∉[p]:=fun x c hx hc hm=>by
  simp only[List.mem_singleton] at hm
  subst hm
  omega
 have hlen:i<s.asks.length:=(List.getElem?_eq_some_iff.1 ha).1
 have hai:s.asks[i]=a:=(List.getElem?_eq_some_iff.1 ha).2
 refine⟨h.sep.grow k.size,k.blk h.hd (ne _ _ h.sep.b.1 (by decide)),h.sh.kp k hV' hS',⟨k.own h.wh.1 (fun x e=> ?_),h.wh.2⟩,
  h.jq.kp k (fun x e=>ne _ _ (h.sep.gj x e).1 (by decide)),h.dn.kp k (fun x e=>ne _ _ (h.sep.gd x e).1 (by decide)) hV' hS',h.jl,
  fun i j q h1 h2=>(h.ja i j q h1 h2).kp k (ne _ _ (h.sep.js q (List.mem_of_getElem? h2)).1 (by decide)) hV' hS',by rw[List.length_set];exact h.al,fun i2 a2 p2 h1 h2=> ?_,
  ⟨k.own h.aq.1 (fun x e=>ne _ _ (h.sep.ga x (by rw[<-h.aq.2];exact e)).1 (by decide)),h.aq.2⟩,⟨k.own h.mq.1 (fun x e=>ne _ _ (h.sep.gm x (by rw[<-h.mq.2.1];exact e)).1 (by decide)),h.mq.2.1, ?_⟩, ?_⟩
 ·rw[h.wh.2] at e
  cases e
  exact ne _ _ h.sep.gw.1 (by decide)
 ·by_cases e:i2=i
  ·subst e
   rw[hp] at h2
   cases h2
   rw[show(s.asks.set i2 a')[i2]?=some a' from by simp[hlen]] at h1
   cases h1
   exact hn
  ·have h1':s.asks[i2]?=some a2:=by
    have h1:(s.asks.set i a')[i2]?=some a2:=h1
    rwa[List.getElem?_set_ne (by omega)] at h1
   refine(h.aa i2 a2 p2 h1' h2).kp k (fun hm=> ?_) hV' hS'
   simp only[List.mem_singleton] at hm
   subst hm
   exact e (nodup_idx h.sep.an h2 hp)
 ·have e:(s.asks.set i a').flatMap (·.ms)=s.asks.flatMap (·.ms):=by
   have e1:(s.asks.set i a').map (·.ms)=s.asks.map (·.ms):=by
    rw[List.map_set,hms]
    refine List.ext_getElem? fun n=> ?_
    by_cases en:n=i
    ·subst en
     rw[List.getElem?_set_self (by simpa using hlen)]
     simp[hlen,hai]
    ·rw[List.getElem?_set_ne (by omega)]
   rw[List.flatMap_def,List.flatMap_def,e1]
  show l.Perm ((s.asks.set i a').flatMap (·.ms))
  rw[e]
  exact h.mq.2.2
 ·intro e
  refine h.no ?_
  have e:s.asks.set i a'=[]:=e
  have:=congrArg List.length e
  rw[List.length_set] at this
  exact List.eq_nil_of_length_eq_zero this
def SendPost(U:List Nat)(L:Lay)(cf:Cfg)(s:Cs)(i p:Nat)(a a':Ask)(w:World)(e:Ending)(w':World):Prop:=
 ∃v,e= .returned (.agg #[.int .i64 (cf.id:Int),.int .i64 (dest cf s.whom a.shard),v])/\BSl (L.all++U) w' v a.frame/\CoSt U w' L cf {s with asks:=s.asks.set i a'}/\Kp [p] w w'
theorem sends_any(U:List Nat)(w:World)(L:Lay)(cf:Cfg)(s:Cs)(i p:Nat)(a:Ask)(hC:CoSt U w L cf s)(ok:CsOk cf s)(hp:L.az[i]?=some p)(ha:s.asks[i]?=some a):
 Calls Tryz.prog 48 #[.pointer (some ⟨L.b,0,none⟩),.pointer (some ⟨p,0,none⟩)] w (SendPost U L cf s i p a {a with waited:=0} w):=by
 obtain⟨κ,VS,VW,VJ,VD,MV,AV,l,h⟩:=hC
 have aok:=ok.asks a (List.mem_of_getElem? ha)
 obtain⟨b,o,cS,Ab,Ao,nj,cj,cw,wi,rfl,hb,c0,hAb,rfl,cw1,fw1,e2,hlt,h7,e7,c2⟩:=h.dest ok aok.shard
 obtain⟨kd,dv,fv,hbp,hbs⟩:=h.aa i a p ha hp
 obtain⟨Af,cF,rfl,hrf,hcf,hcm,hnf⟩:=hbs
 have x0:w.cell? ⟨p,5,none⟩=some (.int .i64 (a.waited:Int)):=bkc hbp 5 rfl
 have f0:=blk_free hbp 5
 have hpl:p<w.heap.size:=lt_of_block hbp
 have hpn:¬p=w.heap.size:=by omega
 have hwl:=ok.wlen
 have i0:(0:Int)<=(a.shard:Int):=by omega
 have i1:(a.shard:Int)<(cf.shards.length:Int):=by have:=aok.shard;omega
 have i2:(a.shard:Int)<(s.whom.length:Int):=by have:=aok.shard;omega
 have i3:(0:Int)<=(wi:Int):=by omega
 have i4:(wi:Int)<(nj:Int):=by omega
 obtain⟨W1,hW1⟩:∃W1,W1=(w.setCell ⟨p,5,none⟩ (.int .i64 0)).alloc (.cells #[.int .i64 0,.int .i64 0,.slice none 0 0] 44):=⟨_,rfl⟩
 have hs1:W1.heap.size=w.heap.size+1:=by rw[hW1];simp
 have hpa:=(h.sep.az p (List.mem_of_getElem? hp))
 have hpm:p∈L.all++U:=List.mem_append.2 (.inl (Lay.mem.2 (by simp[List.mem_of_getElem? hp])))
 have hgw:=h.sep.gw
 have hbL:=h.sep.b
 have kA:Kp [p] w (w.setCell ⟨p,5,none⟩ (.int .i64 0)):=(Kp.refl [p] w).setCell (.inl (by simp)) _
 have kB:Kp [] (w.setCell ⟨p,5,none⟩ (.int .i64 0)) W1:=by rw[hW1];exact(Kp.refl [] _).alloc _
 have k1:Kp [p] w W1:=kA.trans kB (by simp)
 have hbA:(w.setCell ⟨p,5,none⟩ (.int .i64 0)).heap[p]?=some (.cells #[.int .i64 kd,.int .i64 (a.ctx:Int),.int .i64 (a.shard:Int),dv,.slice Af a.frame.length cF,.int .i64 ((0:Nat):Int),.int .i64 (a.tried:Int),.bool a.hinted,.bool a.answered] 101 (0,0)):=heap_setCell_same _ p 5 _ _ (.int .i64 0) hbp
 have hb1:=kB.blk hbA (by simp)
 have hm1:M3 W1 w.heap.size (.int .i64 0) (.int .i64 0) (.slice none 0 0):=by
  rw[hW1]
  have:=heap_alloc_new (w.setCell ⟨p,5,none⟩ (.int .i64 0)) (.cells #[.int .i64 0,.int .i64 0,.slice none 0 0] 44)
  rwa[World.size_setCell] at this
 have hask:AskAt (L.all++U) (w.setCell ⟨p,5,none⟩ (.int .i64 0)) p {a with waited:=0}:=⟨kd,dv,_,hbA,Af,cF,rfl,hrf.kp kA (by intro x hx;simp at hx;subst hx;exact .inl hpm),hcf,hcm,hnf⟩
 have hP1:=(h.ask hp ha kA hask rfl).kp (U2:=w.heap.size::U) kB (by simp) (fun x hx=>by
  rcases List.mem_cons.1 hx with rfl|e
  ·exact .inr ⟨by simp,by omega⟩
  ·exact .inl e)
 have nb:b∉[p]:=by simp;intro e;subst e;exact hb hpm
 have nA:Ab∉[p]:=by simp;intro e;subst e;exact hAb hpm
 have nw:L.gw∉[p]:=by simp;intro e;subst e;omega
 have KX:As (∀wX,Kp [w.heap.size] W1 wX->wX.cell? ⟨L.b,0,none⟩=some (.int .i64 (cf.id:Int))/\wX.cell? ⟨L.b,3,none⟩=some (.slice (some ⟨b,o,none⟩) cf.shards.length cS)/\wX.cell? ⟨L.b,4,none⟩=some (.slice (some ⟨L.gw,0,none⟩) s.whom.length cw)/\
  wX.cell? ⟨p,2,none⟩=some (.int .i64 (a.shard:Int))/\wX.cell? ⟨p,4,none⟩=some (.slice Af a.frame.length cF)/\wX.cell? ⟨b,o+a.shard,none⟩=some (.slice (some ⟨Ab,Ao,none⟩) nj cj)/\wX.cell? ⟨L.gw,a.shard,none⟩=some (.int .i64 (wi:Int))/\
  wX.cell? ⟨Ab,Ao+wi,none⟩=some (.int .i64 (dest cf s.whom a.shard))):=⟨fun wX kX=>by
  have hdX:=kX.blk hP1.hd (by simp;omega)
  have hbX:=kX.blk hb1 (by simp;omega)
  have c2':=c2 wi hlt
  have lb:=World.block_lt_of_cell? w _ c0
  have lA:=World.block_lt_of_cell? w _ c2'
  refine⟨bkc hdX 0 rfl,bkc hdX 3 rfl,bkc hdX 4 rfl,bkc hbX 2 rfl,bkc hbX 4 rfl,kX.cell (k1.cell c0 nb) (by simp at lb⊢;omega),kX.cell (k1.cell cw1 nw) (by simp;omega), ?_⟩
  rw[dest,e2]
  exact kX.cell (k1.cell c2' nA) (by simp at lA⊢;omega)⟩
 have HCL:As (∀wX,Kp [] W1 wX->Calls Tryz.prog 29 #[.slice Af a.frame.length cF] wX fun e w'=>∃A2 c2,e= .returned (.slice A2 a.frame.length c2)/\As (Own 5 .u8 w' W1.heap.size (.slice A2 a.frame.length c2) a.frame)/\As (Kp [] W1 w')):=⟨fun wX kX=>by
  refine(cloneb_any Af a.frame.length cF a.frame wX rfl ((hrf.kp k1 (by intro x hx;simp at hx;subst hx;exact .inl hpm)).kp kX (by simp)).rd hnf (by have:=aok.frame.1;omega)).mono ?_
  rintro e w' ⟨v,rfl,ho,hk⟩
  obtain⟨A2,c2,rfl,_⟩:=own_rd ho.1
  exact⟨A2,c2,rfl,⟨ho.lower kX.size⟩,⟨kX.trans hk (by simp)⟩⟩⟩
 have HW1:=As.mk hW1
 have HMX:As (∀wX,Kp [] W1 wX->wX.cell? ⟨w.heap.size,0,none⟩=some (.int .i64 0)/\wX.cell? ⟨w.heap.size,1,none⟩=some (.int .i64 0)/\wX.cell? ⟨w.heap.size,2,none⟩=some (.slice none 0 0)/\wX.frozen? ⟨w.heap.size,0,none⟩=false/\wX.frozen? ⟨w.heap.size,1,none⟩=false/\wX.frozen? ⟨w.heap.size,2,none⟩=false):=⟨fun wX kX=>by
  have hX:=hm1.kp kX (by simp)
  exact⟨bkc hX 0 rfl,bkc hX 1 rfl,bkc hX 2 rfl,blk_free hX 0,blk_free hX 1,blk_free hX 2⟩⟩
 have HL:=As.mk h.sep
 have HP1:=As.mk hP1
 have HM1:=As.mk hm1
 have HK1:=As.mk k1
 have HS1:=As.mk hs1
 clear hW1 h hbp hrf hcf hnf hcm e2 e7 c2 hp ha ok aok hb hAb c0 cw1 fw1 hwl hP1 hm1 k1 hs1 hpa hpm hgw hbL hb1 hask nb nA nw kA kB hbA
 go_enter Tryz.func48,Tryz.ntmps48
 go_upto_region 2 with fail
 rw[<-HW1.out]
 go_region_held3 (fun wX=>wX.cell? ⟨L.b,0,none⟩=some (.int .i64 (cf.id:Int))/\wX.cell? ⟨L.b,3,none⟩=some (.slice (some ⟨b,o,none⟩) cf.shards.length cS)/\wX.cell? ⟨L.b,4,none⟩=some (.slice (some ⟨L.gw,0,none⟩) s.whom.length cw)/\
  wX.cell? ⟨p,2,none⟩=some (.int .i64 (a.shard:Int))/\wX.cell? ⟨p,4,none⟩=some (.slice Af a.frame.length cF)/\wX.cell? ⟨b,o+a.shard,none⟩=some (.slice (some ⟨Ab,Ao,none⟩) nj cj)/\wX.cell? ⟨L.gw,a.shard,none⟩=some (.int .i64 (wi:Int))/\
  wX.cell? ⟨Ab,Ao+wi,none⟩=some (.int .i64 (dest cf s.whom a.shard)))
  (first|exact KX.out _ (Kp.refl _ W1)|exact KX.out _ (Kp.refl _ W1).drew|exact KX.out _ ((Kp.refl _ W1).drewN _)|exact KX.out _ (HK2.out.mono (by simp))|exact KX.out _ ((HK2.out.mono (T:=[w.heap.size]) (by simp)).drewN _)|exact KX.out _ (((((HK2.out.mono (T:=[w.heap.size]) (by simp))).setCell (.inl (by simp)) _).setCell (.inl (by simp)) _).setCell (.inl (by simp)) _))
  (first|(go_at_call 29;refine(HCL.out _ (by first|exact Kp.refl [] W1|exact(Kp.refl [] W1).drew|exact(Kp.refl [] W1).drewN _)).mono ?_;rintro e w2 ⟨A2,c2,rfl,HO2,HK2⟩;obtain⟨m0,m1,m2,g0,g1,g2⟩:=HMX.out w2 HK2.out))
 go_wp2
 have hz:=(HM1.out.kp HK2.out (by simp)).set (.int .i64 (cf.id:Int)) (.int .i64 (dest cf s.whom a.shard)) (.slice A2 a.frame.length c2)
 (try simp only[Exit.inBlock,Exit.then])
 refine bodyPost_ret (hz.1.res rfl rfl) rfl ?_
 have hs:=HS1.out
 have kz:Kp [w.heap.size] W1 _:=(HK2.out.mono (by simp)).trans hz.2 (by simp)
 have hlt:∀x∈L.all++U,x<w.heap.size:=by
  intro x hx
  rcases List.mem_append.1 hx with e|e
  ·exact(HL.out.pos e).2
  ·exact(HL.out.U x e).2
 have hin:=(HP1.out.kp (U2:=w.heap.size::U) HK2.out (by simp) (fun x hx=> .inl hx)).kp (U2:=U) hz.2 (by simp) (fun x hx=> .inl (by simp[hx]))
 refine⟨_,rfl, ?_,⟨_,_,_,_,_,_,_,_,hin⟩, ?_⟩
 ·refine(BSl.own (S:=w.heap.size::(L.all++U)) HO2.out (fun x hx=> .inl ?_)).kp hz.2 (by simp) (fun x hx=> .inl (List.mem_cons_of_mem _ hx))
  rcases List.mem_cons.1 hx with rfl|e
  ·omega
  ·have:=hlt x e;omega
 ·exact HK1.out.trans kz (by simp)
theorem tried_any(U:List Nat)(w:World)(L:Lay)(cf:Cfg)(s:Cs)(i p:Nat)(a:Ask)(hC:CoSt U w L cf s)(ok:CsOk cf s)(hp:L.az[i]?=some p)(ha:s.asks[i]?=some a)(hlt:a.tried<cf.tries):
 Calls Tryz.prog 31 #[.pointer (some ⟨L.b,0,none⟩),.pointer (some ⟨p,0,none⟩)] w (SendPost U L cf s i p a {a with waited:=0,tried:=a.tried+1,hinted:=false} w):=by
 obtain⟨κ,VS,VW,VJ,VD,MV,AV,l,h⟩:=hC
 have aok:=ok.asks a (List.mem_of_getElem? ha)
 obtain⟨kd,dv,fv,hbp,hbs⟩:=h.aa i a p ha hp
 have x0:w.cell? ⟨p,6,none⟩=some (.int .i64 (a.tried:Int)):=bkc hbp 6 rfl
 have x1:w.cell? ⟨p,7,none⟩=some (.bool a.hinted):=bkc hbp 7 rfl
 have f0:=blk_free hbp 6
 have f1:=blk_free hbp 7
 have hpl:p<w.heap.size:=lt_of_block hbp
 have hpn:¬p=w.heap.size:=by omega
 have i0:(0:Int)<=(a.tried:Int):=by omega
 have i1:(a.tried:Int)<=1000:=by have:=ok.cfg.tries;omega
 have hpm:p∈L.all++U:=List.mem_append.2 (.inl (Lay.mem.2 (by simp[List.mem_of_getElem? hp])))
 obtain⟨WA,hWA⟩:∃WA,WA=(w.setCell ⟨p,6,none⟩ (.int .i64 ((a.tried:Int)+1))).setCell ⟨p,7,none⟩ (.bool false):=⟨_,rfl⟩
 obtain⟨W1,hW1⟩:∃W1,W1=((w.setCell ⟨p,6,none⟩ (.int .i64 ((a.tried:Int)+1))).setCell ⟨p,7,none⟩ (.bool false)).alloc (.cells #[.int .i64 0,.int .i64 0,.slice none 0 0] 44):=⟨_,rfl⟩
 have hsA:WA.heap.size=w.heap.size:=by rw[hWA];simp
 have hs1:W1.heap.size=w.heap.size+1:=by rw[hW1,World.size_alloc,<-hWA,hsA]
 have kA:Kp [p] w WA:=by rw[hWA];exact((Kp.refl [p] w).setCell (.inl (by simp)) _).setCell (.inl (by simp)) _
 have kB:Kp [] WA W1:=by rw[hW1,<-hWA];exact(Kp.refl [] _).alloc _
 have k1:Kp [p] w W1:=kA.trans kB (by simp)
 have hbA:WA.heap[p]?=some (.cells #[.int .i64 kd,.int .i64 (a.ctx:Int),.int .i64 (a.shard:Int),dv,fv,.int .i64 (a.waited:Int),.int .i64 ((a.tried+1:Nat):Int),.bool false,.bool a.answered] 101 (0,0)):=by
  rw[hWA]
  exact heap_setCell_same _ p 7 _ _ (.bool false) (heap_setCell_same _ p 6 _ _ (.int .i64 ((a.tried:Int)+1)) hbp)
 have hm1:M3 W1 w.heap.size (.int .i64 0) (.int .i64 0) (.slice none 0 0):=by
  rw[hW1,<-hWA,<-hsA]
  exact heap_alloc_new WA _
 have hask:AskAt (L.all++U) WA p {a with tried:=a.tried+1,hinted:=false}:=⟨kd,dv,fv,hbA,hbs.kp kA (by intro x hx;simp at hx;subst hx;exact .inl hpm) (fun x hx=> .inl hx)⟩
 have hP1:=(h.ask hp ha kA hask rfl).kp (U2:=w.heap.size::U) kB (by simp) (fun x hx=>by
  rcases List.mem_cons.1 hx with rfl|e
  ·exact .inr ⟨by omega,by omega⟩
  ·exact .inl e)
 have HSN:As (Calls Tryz.prog 48 #[.pointer (some ⟨L.b,0,none⟩),.pointer (some ⟨p,0,none⟩)] W1 fun e w2=>∃A2 c2,e= .returned (.agg #[.int .i64 (cf.id:Int),.int .i64 (dest cf s.whom a.shard),.slice A2 a.frame.length c2])/\
  (w2.cell? ⟨w.heap.size,0,none⟩=some (.int .i64 0)/\w2.cell? ⟨w.heap.size,1,none⟩=some (.int .i64 0)/\w2.cell? ⟨w.heap.size,2,none⟩=some (.slice none 0 0)/\w2.frozen? ⟨w.heap.size,0,none⟩=false/\w2.frozen? ⟨w.heap.size,1,none⟩=false/\w2.frozen? ⟨w.heap.size,2,none⟩=false)/\
  As (M3 w2 w.heap.size (.int .i64 0) (.int .i64 0) (.slice none 0 0)/\SendPost (w.heap.size::U) L cf {s with asks:=s.asks.set i {a with tried:=a.tried+1,hinted:=false}} i p {a with tried:=a.tried+1,hinted:=false} {a with waited:=0,tried:=a.tried+1,hinted:=false} W1 (.returned (.agg #[.int .i64 (cf.id:Int),.int .i64 (dest cf s.whom a.shard),.slice A2 a.frame.length c2])) w2)):=⟨by
  have hl:=(List.getElem?_eq_some_iff.1 ha).1
  refine(sends_any (w.heap.size::U) W1 L cf _ i p {a with tried:=a.tried+1,hinted:=false} ⟨_,_,_,_,_,_,_,_,hP1⟩ (ok.ask i ⟨aok.shard,aok.ctx,aok.frame,hlt,aok.waited⟩) hp (by simp[hl])).mono ?_
  rintro e w2 ⟨v,rfl,hv,hc,hk⟩
  obtain⟨A2,c2,rfl,_⟩:=id hv
  have hX:=hm1.kp hk (by simp;omega)
  exact⟨A2,c2,rfl,⟨bkc hX 0 rfl,bkc hX 1 rfl,bkc hX 2 rfl,blk_free hX 0,blk_free hX 1,blk_free hX 2⟩,⟨hX,_,rfl,hv,hc,hk⟩⟩⟩
 have HW1:=As.mk hW1
 have HK1:=As.mk k1
 have HS1:=As.mk hs1
 clear hWA hW1 hsA hs1 kA kB k1 hbA hm1 hask hP1 h hbp hbs hpm hp ha ok aok hlt
 go_enter Tryz.func31,Tryz.ntmps31
 go_wp2_with (go_at_call 48;(try rw[<-HW1.out]);refine HSN.out.mono ?_;rintro e w2 ⟨A2,c2,rfl,⟨m0,m1,m2,g0,g1,g2⟩,HP2⟩)
 have hz:=HP2.out.1.set (.int .i64 (cf.id:Int)) (.int .i64 (dest cf s.whom a.shard)) (.slice A2 a.frame.length c2)
 (try simp only[Exit.inBlock,Exit.then])
 refine bodyPost_ret (hz.1.res rfl rfl) rfl ?_
 have hs:=HS1.out
 obtain⟨_,v,ev,hbs,hcs,hk2⟩:=HP2.out
 simp only[Ending.returned.injEq,Value.agg.injEq] at ev
 obtain rfl:v= .slice A2 a.frame.length c2:=by simpa using ev.symm
 refine⟨_,rfl,hbs.kp hz.2 (by simp) (fun x hx=> .inl ?_), ?_, ?_⟩
 ·rcases List.mem_append.1 hx with e|e<;>simp[e]
 ·have:=hcs.kp (U2:=U) hz.2 (by simp) (fun x hx=> .inl (by simp[hx]))
  simpa using this
 ·exact(HK1.out.trans hk2 (by simp)).trans hz.2 (by simp)
theorem kb_get{key:ByteArray}{k:Nat}(h:k<(kb key).length):0<=(kb key)[k]/\(kb key)[k]<256:=kb_wf key _ (List.getElem_mem h)
theorem hash_ret{k:Nat}{l:List Int}{c x:Int}(hlt:k<l.length)(hc:l[k]=c)(hx:hashStep (hashL (l.take k)) c=x):Value.int .u64 x= .int .u64 (hashL (l.take (k+1))):=by
 rw[hashL_step l k hlt,hc,hx]
theorem hash_full(key:ByteArray)(w:World)(hz:key.size<=140737488351232):Calls Tryz.prog 109 #[.string key] w fun e w'=>e= .returned (.int .u64 (hashL (kb key)))/\Kp [] w w':=by
 obtain⟨m,hkm⟩:∃m,key.size=m:=⟨_,rfl⟩
 have hcv:=Lib.run_convert_string_bytes (P:=Tryz.prog) w 9 24 5 key Tryz.underlying9 Tryz.underlying24 Tryz.underlying5
 rw[hkm] at hcv hz
 have hrk:=rds_bytes (S:=[]) w 5 key (by simp)
 have HK:=As.mk (kp_bytes (Kp.refl [] w) 5 key)
 obtain⟨w1,hw1⟩:∃w1,Lib.bytesWorld w 5 key=w1:=⟨_,rfl⟩
 rw[hw1] at hrk HK hcv
 have HR:=As.mk hrk
 have HM:=As.mk (show(kb key).length=m by rw[kb_len,hkm])
 clear hrk hw1 hkm
 go_enter Tryz.func109,Tryz.ntmps109
 go_wp2
 go_loopw [3,9] (fun h i wr=>∃k:Nat,i= .int .i64 (k:Int)/\k<=m/\h= .int .u64 (hashL ((kb key).take k))/\wr=w1) (fun _ i _=>m-(intOf i).toNat)
 case atStart=>exact⟨0,rfl,by omega,rfl,rfl⟩
 case round=>
  obtain⟨k,rfl,hk,rfl,rfl⟩:=hrel
  by_cases hlt:k<m
  ·have hlt':k<(kb key).length:=by rw[HM.out];exact hlt
   obtain⟨a,ha,d0⟩:=HR.out.rd.int k hlt'
   cases ha
   rw[Addr.add_lit,Nat.zero_add] at d0
   have hb:=kb_get hlt'
   have i0:(0:Int)<=(k:Int):=by omega
   have i1:(k:Int)<(m:Int):=by omega
   obtain⟨c,hc⟩:∃c,(kb key)[k]=c:=⟨_,rfl⟩
   rw[hc] at d0 hb
   obtain⟨hb0,hb1⟩:=hb
   have HL:=As.mk hlt'
   obtain⟨H,hH⟩:∃H,hashL ((kb key).take k)=H:=⟨_,rfl⟩
   obtain⟨x,hx⟩:∃x,hashStep (hashL ((kb key).take k)) c=x:=⟨_,rfl⟩
   have HE:=As.mk (hash_ret hlt' hc hx)
   rw[hH] at hx
   rw[hH]
   have HX:=As.mk hx
   clear hlt' hc hH hx
   go_wp2
   go_roundw
   case rel=>
    exact⟨k+1,by go_num,by omega,by rw[<-HE.out,<-HX.out];rfl,by first|rfl|trivial⟩
   case measure=>simp[intOf];omega
  ·go_wp2
   go_ret
   have e:(kb key).take k=kb key:=List.take_of_length_le (by rw[HM.out];omega)
   exact⟨by rw[e];rfl,HK.out⟩
theorem shard_full(key:ByteArray)(n:Nat)(w:World)(hz:key.size<=140737488351232)(h1:1<=n)(h8:n<=8):Calls Tryz.prog 75 #[.string key,.int .i64 (n:Int)] w fun e w'=>e= .returned (.tuple #[.int .i64 (shardOf (kb key) n:Int),.int .i64 0])/\Kp [] w w':=by
 have HM:As (∀wX,Calls Tryz.prog 108 #[.int .i64 (n:Int)] wX fun e w'=>e= .returned (.bool true)/\Kp [] wX w'):=⟨fun wX=>by
  have i1:(1:Int)<=(n:Int):=by omega
  have i8:(n:Int)<=8:=by omega
  go_enter Tryz.func108,Tryz.ntmps108
  go_wp2
  go_ret
  exact⟨rfl,Kp.refl _ _⟩⟩
 have hp:=hashL_pos (kb key)
 obtain⟨H,hH⟩:∃H,hashL (kb key)=H:=⟨_,rfl⟩
 have HH:As (∀wX,Calls Tryz.prog 109 #[.string key] wX fun e w'=>e= .returned (.int .u64 H)/\Kp [] wX w'):=⟨fun wX=>by rw[<-hH];exact hash_full key wX hz⟩
 have HS:As (shardOf (kb key) n=(H%(n:Int)).toNat):=⟨by rw[shardOf,hH]⟩
 rw[hH] at hp
 obtain⟨p0,p1⟩:=hp
 have n0:(0:Int)<(n:Int):=by omega
 clear hz hH
 go_enter Tryz.func75,Tryz.ntmps75
 go_wp2_with (first
  |(go_at_call 108;refine(HM.out _).mono ?_;rintro e w1 ⟨rfl,k1⟩;have HK1:=As.mk k1;clear k1 HM)
  |(go_at_call 109;refine(HH.out w1).mono ?_;rintro e w2 ⟨rfl,k2⟩;have HK2:As (Kp [] w w2):=⟨HK1.out.trans k2 (by simp)⟩;clear k2 HH))
 go_ret2
 refine⟨?_,HK2.out⟩
 have q0:=Int.emod_nonneg H (show(n:Int)≠0 by omega)
 have q1:=Int.emod_lt_of_pos H n0
 have e:wrap64 (H%(n:Int))=(((H%(n:Int)).toNat:Nat):Int):=by
  generalize H%(n:Int)=q at q0 q1⊢
  rw[wrap64]
  omega
 rw[HS.out,<-e]
 rfl
theorem cvt_str{w:World}{A:Option Addr}{n c:Nat}{zs:List Int}(hz:zs.length=n)(hr:Rd w A (iv .u8 zs)):(convert 24 9 (.slice A n c)).run Tryz.prog w= .ok (.string (strOfNums zs)) w:=by
 by_cases hn:0<n
 ·obtain⟨a,rfl,d0⟩:=hr.int 0 (by omega)
  obtain⟨b,o,s⟩:=a
  obtain rfl:s=none:=by simpa [Addr.add] using World.cell?_spot d0
  refine run_convert_bytes_arg w 24 5 Tryz.underlying24 Tryz.underlying5 b o n c zs hz ?_ 9 Tryz.underlying9
  intro i hi
  obtain⟨_,e,d⟩:=hr.int i (by omega)
  cases e
  rw[Go.WideShapes.add_plain] at d
  rw[d]
  simp[List.getD,show i<zs.length by omega]
 ·obtain rfl:n=0:=by omega
  obtain rfl:zs=[]:=List.eq_nil_of_length_eq_zero hz
  rw[run_convert_bytes_string w 24 9 5 _ 0 c Tryz.underlying24 Tryz.underlying5 Tryz.underlying9]
  cases A<;>rfl
def pre(cf:Cfg)(j:Job)(k:Nat):List Nat:=if j.kind=4 then List.range k else if shardOf (kb j.key) cf.shards.length<k then[shardOf (kb j.key) cf.shards.length] else[]
theorem pre_zero(cf:Cfg)(j:Job):pre cf j 0=[]:=by
 unfold pre;split
 ·rfl
 ·rfl
theorem pre_all{cf:Cfg}{j:Job}(h:0<cf.shards.length):pre cf j cf.shards.length=jshards cf j:=by
 unfold pre jshards
 split
 ·rfl
 ·rw[if_pos (shardOf_lt _ h)]
theorem pre_find{cf:Cfg}{j:Job}(k:Nat)(h:j.kind=4):pre cf j (k+1)=pre cf j k++[k]:=by
 unfold pre
 rw[if_pos h,if_pos h,List.range_succ]
theorem pre_hit{cf:Cfg}{j:Job}{k:Nat}(h:j.kind≠4)(hk:k=shardOf (kb j.key) cf.shards.length):pre cf j (k+1)=pre cf j k++[k]:=by
 unfold pre
 rw[if_neg h,if_neg h,if_pos (by omega),if_neg (by omega),hk]
 rfl
theorem pre_miss{cf:Cfg}{j:Job}{k:Nat}(h:j.kind≠4)(hk:k≠shardOf (kb j.key) cf.shards.length):pre cf j (k+1)=pre cf j k:=by
 unfold pre
 rw[if_neg h,if_neg h]
 by_cases e:shardOf (kb j.key) cf.shards.length<k
 ·rw[if_pos e,if_pos (by omega)]
 ·rw[if_neg e,if_neg (by omega)]
theorem pre_len(cf:Cfg)(j:Job)(k:Nat):(pre cf j k).length<=k:=by
 unfold pre
 split
 ·simp
 ·split
  ·simp;omega
  ·simp
def Grew(w:World)(L L':Lay):Prop:=L'.b=L.b/\∀x∈L'.all,x∈L.all\/w.heap.size<=x
theorem Grew.refl(w:World)(L:Lay):Grew w L L:=⟨rfl,fun _ h=> .inl h⟩
theorem CoSt.mem_b{L:Lay}:L.b∈L.all:=Lay.mem.2 (.inl rfl)
theorem CoSt.lt{U:List Nat}{w:World}{L:Lay}{cf:Cfg}{s:Cs}(h:CoSt U w L cf s):∀x∈L.all++U,x<w.heap.size:=by
 obtain⟨κ,VS,VW,VJ,VD,MV,AV,l,h⟩:=h
 intro x hx
 rcases List.mem_append.1 hx with e|e
 ·exact(h.sep.pos e).2
 ·exact(h.sep.U x e).2
theorem CoP.addAsk{U:List Nat}{w w1:World}{L:Lay}{cf:Cfg}{s:Cs}{κ:Nat->Nat}{VS VW VJ VD MV AV AV1:Value}{l:List (ByteArray×Int)}(h:CoP U w L cf s κ VS VW VJ VD MV AV l){j:Job}{r:List Job}{p0 q:Nat}{ps:List Nat}{a:Ask}
 (hj:s.jobs=j::r) (hjs:L.js=p0::ps) (k:Kp (L.b::p0::L.ga.toList) w w1)
 (hb:w1.heap[L.b]?=some (.cells #[.int .i64 (cf.id:Int),.int .i64 (cf.pat:Int),.int .i64 (cf.tries:Int),VS,VW,VJ,.int .i64 (nextJ s:Int),.int .i64 ((s.ctx+1:Nat):Int),VD] 95 (0,0)))
 (hp:∀S2,(∀x∈S2,x∈L.all++U\/w.heap.size<=x)->JobAt S2 w1 p0 cf.id s.ended j MV AV1) (hq:∀S2,(∀x∈S2,x∈L.all++U\/x=q\/AV1.ownBlock=some x)->AskAt S2 w1 q a) (hq0:w.heap.size<=q) (hq1:q<w1.heap.size)
 (ho:w1.ownsRow 0 97 1 AV1 (L.az.length+1) (L.az.map ptr++[ptr q])) (hat:∀x,AV1.ownBlock=some x->(L.ga=some x\/w.heap.size<=x)/\x≠q) (hms:a.ms=[]):
 CoP U w1 {L with ga:=AV1.ownBlock,az:=L.az++[q]} cf {s with ctx:=s.ctx+1,asks:=s.asks++[a]} (fun x=>if x=q then 8 else if AV1.ownBlock=some x then 5 else κ x) VS VW VJ VD MV AV1 l:=by
 have hs:=k.size
 have hp0:=h.sep.js p0 (by rw[hjs];simp)
 have hkp:∀x∈L.b::p0::L.ga.toList,(κ x=1\/x=p0\/κ x=5)/\x∈L.all:=by
  intro x hx
  rcases List.mem_cons.1 hx with rfl|hx
  ·exact⟨.inl h.sep.b.1,Lay.mem.2 (.inl rfl)⟩
  ·rcases List.mem_cons.1 hx with rfl|hx
   ·exact⟨.inr (.inl rfl),Lay.mem.2 (by simp[hjs])⟩
   ·have e:L.ga=some x:=by simpa using hx
    exact⟨.inr (.inr (h.sep.ga x e).1),Lay.mem.2 (by simp[e])⟩
 have hV':∀x∈L.b::p0::L.ga.toList,x∈L.all++U\/w.heap.size<=x:=fun x hx=> .inl (List.mem_append.2 (.inl (hkp x hx).2))
 have hall:∀x∈({L with ga:=AV1.ownBlock,az:=L.az++[q]}:Lay).all++U,x∈L.all++U\/x=q\/AV1.ownBlock=some x:=by
  intro x hx
  rcases List.mem_append.1 hx with e|e
  ·rcases Lay.mem.1 e with e|e|e|e|e|e|e|e
   ·exact .inl (List.mem_append.2 (.inl (Lay.mem.2 (by simp_all))))
   ·exact .inl (List.mem_append.2 (.inl (Lay.mem.2 (by simp_all))))
   ·exact .inl (List.mem_append.2 (.inl (Lay.mem.2 (by simp_all))))
   ·exact .inl (List.mem_append.2 (.inl (Lay.mem.2 (by simp_all))))
   ·exact .inr (.inr e)
   ·exact .inl (List.mem_append.2 (.inl (Lay.mem.2 (by simp_all))))
   ·exact .inl (List.mem_append.2 (.inl (Lay.mem.2 (by simp_all))))
   ·rcases List.mem_append.1 e with e|e
    ·exact .inl (List.mem_append.2 (.inl (Lay.mem.2 (by simp_all))))
    ·exact .inr (.inl (by simpa using e))
  ·exact .inl (List.mem_append.2 (.inr e))
 have hS':∀x∈({L with ga:=AV1.ownBlock,az:=L.az++[q]}:Lay).all++U,x∈L.all++U\/w.heap.size<=x:=by
  intro x hx
  rcases hall x hx with e|e|e
  ·exact .inl e
  ·exact .inr (by omega)
  ·rcases (hat x e).1 with e2|e2
   ·exact .inl (List.mem_append.2 (.inl (Lay.mem.2 (by simp[e2]))))
   ·exact .inr e2
 have ne:∀x c,κ x=c->c≠1->c≠7->c≠5->x∉L.b::p0::L.ga.toList:=fun x c hx c1 c7 c5 hm=>by
  rcases (hkp x hm).1 with e|rfl|e<;>omega
 have κ':∀x c,κ x=c/\x<w.heap.size->c≠5->(if x=q then 8 else if AV1.ownBlock=some x then 5 else κ x)=c/\x<w1.heap.size:=by
  intro x c hx hc
  rw[if_neg (by omega),if_neg]
  ·exact⟨hx.1,by omega⟩
  ·intro e
   rcases (hat x e).1 with e2|e2
   ·have:=(h.sep.ga x e2).1;omega
   ·omega
 refine⟨⟨κ' _ _ h.sep.b (by decide),κ' _ _ h.sep.gw (by decide),fun x e=>κ' _ _ (h.sep.gj x e) (by decide),fun x e=>κ' _ _ (h.sep.gd x e) (by decide),fun x e=> ?_,fun x e=>κ' _ _ (h.sep.gm x e) (by decide),fun x e=>κ' _ _ (h.sep.js x e) (by decide),fun x e=> ?_,h.sep.jn, ?_,fun x e=>κ' _ _ (h.sep.U x e) (by decide)⟩,
  hb,h.sh.kp k hV' hS',⟨k.own h.wh.1 (fun x e=> ?_),h.wh.2⟩,h.jq.kp k (fun x e=>ne _ _ (h.sep.gj x e).1 (by decide) (by decide) (by decide)),h.dn.kp k (fun x e=>ne _ _ (h.sep.gd x e).1 (by decide) (by decide) (by decide)) hV' hS',h.jl,
  fun i j2 p h1 h2=> ?_,by show(L.az++[q]).length=(s.asks++[a]).length;rw[List.length_append,List.length_append,h.al];rfl,fun i a2 p h1 h2=> ?_,⟨?_,rfl⟩,⟨k.own h.mq.1 (fun x e=>ne _ _ (h.sep.gm x (by rw[<-h.mq.2.1];exact e)).1 (by decide) (by decide) (by decide)),h.mq.2.1, ?_⟩,fun e=> ?_⟩
 ·show(if x=q then 8 else if AV1.ownBlock=some x then 5 else κ x)=5/\x<w1.heap.size
  have e':AV1.ownBlock=some x:=e
  rw[if_neg (hat x e').2,if_pos e']
  exact⟨rfl,own_lt ho x e'⟩
 ·show(if x=q then 8 else if AV1.ownBlock=some x then 5 else κ x)=8/\x<w1.heap.size
  have e':x∈L.az++[q]:=e
  rcases List.mem_append.1 e' with e2|e2
  ·exact κ' _ _ (h.sep.az x e2) (by decide)
  ·have:x=q:=by simpa using e2
   rw[if_pos this]
   exact⟨rfl,by omega⟩
 ·show(L.az++[q]).Nodup
  rw[List.nodup_append]
  refine⟨h.sep.an,by simp,fun x hx y hy=> ?_⟩
  have:=(h.sep.az x hx).2
  simp at hy
  omega
 ·rw[h.wh.2] at e
  cases e
  exact ne _ _ h.sep.gw.1 (by decide) (by decide) (by decide)
 ·by_cases e:i=0
  ·subst e
   have e1:s.jobs[0]?=some j2:=h1
   rw[hj] at e1
   have e2:L.js[0]?=some p:=h2
   rw[hjs] at e2
   cases e1
   cases e2
   exact hp _ hS'
  ·have hh:=h.ja i j2 p h1 h2
   rw[if_neg e,if_neg e] at hh⊢
   refine hh.kp k ?_ hV' hS'
   intro hm
   have h7:=h.sep.js p (List.mem_of_getElem? h2)
   rcases (hkp p hm).1 with e3|e3|e3
   ·omega
   ·have:=nodup_idx h.sep.jn h2 (show L.js[0]?=some p by rw[hjs,e3];rfl)
    omega
   ·omega
 ·have h1:(s.asks++[a])[i]?=some a2:=h1
  have h2:(L.az++[q])[i]?=some p:=h2
  by_cases hi:i<s.asks.length
  ·rw[List.getElem?_append_left hi] at h1
   rw[List.getElem?_append_left (by rw[h.al];exact hi)] at h2
   refine(h.aa i a2 p h1 h2).kp k (ne _ _ (h.sep.az p (List.mem_of_getElem? h2)).1 (by decide) (by decide) (by decide)) hV' hS'
  ·have hi2:i=s.asks.length:=by
    have:=(List.getElem?_eq_some_iff.1 h1).1
    rw[List.length_append,List.length_singleton] at this
    omega
   subst hi2
   rw[List.getElem?_append_right (Nat.le_refl _)] at h1
   rw[<-h.al,List.getElem?_append_right (Nat.le_refl _)] at h2
   simp at h1 h2
   subst h1 h2
   exact hq _ hall
 ·show w1.ownsRow 0 97 1 AV1 (L.az++[q]).length ((L.az++[q]).map ptr)
  rw[List.length_append,List.map_append]
  exact ho
 ·show l.Perm ((s.asks++[a]).flatMap (·.ms))
  rw[List.flatMap_append,List.flatMap_singleton,hms,List.append_nil]
  exact h.mq.2.2
 ·have e:s.asks++[a]=[]:=e
  simp at e
end Go.Proofs.YtdiljpdohmeceaaGreat.co
