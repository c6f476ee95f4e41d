/- Words and walks that this claim rests on: proved lemmas alone. -/
import Derived.WalkKit
import Derived.Below
import Derived.Deep.Draws
import Derived.Deep.QuietTactic
import Derived.BigQuiet
import Derived.Deep.LoopGhost
import Derived.Laws.OwnMore
import Derived.OneCell
import Derived.Laws.Rows
import Derived.ProofKit
import Derived.OpenShut
import Derived.ShutString
import Derived.ChangeOld
import Derived.SizedLaws
import Derived.Deep.Matrix
import Derived.WalkSpells
import Derived.Test.YtdiljpdohmeceaaGreatProg
import Derived.Lib.ConvBytes
set_option maxHeartbeats 16000000
set_option maxRecDepth 100000
namespace Go.Proofs.YtdiljpdohmeceaaGreat.H
open Go.RowKit
structure As(p:Prop):Prop where mk::(out:p)
structure Kp(S:List Nat)(w w':World):Prop where
 os:w'.os=w.os
 tape:w'.tape=w.tape
 output:w'.output=w.output
 size:w.heap.size<=w'.heap.size
 block:∀k,k<w.heap.size->k∉S->w'.heap[k]?=w.heap[k]?
theorem Kp.refl(S:List Nat)(w:World):Kp S w w:=⟨rfl,rfl,rfl,Nat.le_refl _,fun _ _ _=>rfl⟩
theorem Kp.trans{S T:List Nat}{w w1 w2:World}(h:Kp S w w1)(k:Kp T w1 w2)(hT:∀x∈T,x∈S\/w.heap.size<=x):Kp S w w2:=
 ⟨k.os.trans h.os,k.tape.trans h.tape,k.output.trans h.output,Nat.le_trans h.size k.size,fun i hi hn=>
  (k.block i (Nat.lt_of_lt_of_le hi h.size) (fun ht=>by
   rcases hT i ht with h1|h1
   ·exact hn h1
   ·exact absurd hi (by omega))).trans (h.block i hi hn)⟩
theorem Kp.row{S:List Nat}{g:Option Nat}{w w1 w2:World}(h:Kp S w w1)(k:Kp g.toList w1 w2)(hg:∀x,g=some x->x∈S\/w.heap.size<=x):Kp S w w2:=
 h.trans k (fun x hx=>hg x (by simpa using hx))
theorem Kp.mono{S T:List Nat}{w w1:World}(h:Kp S w w1)(hT:∀x∈S,x∈T\/w.heap.size<=x):Kp T w w1:=(Kp.refl T w).trans h hT
theorem Kp.below{w w':World}(h:Kp [] w w'):Below w.heap.size w w':=⟨h.os,h.tape,h.output,h.size,fun k hk=>h.block k hk (by simp)⟩
theorem Kp.of_below{w w':World}(h:Below w.heap.size w w')(S:List Nat):Kp S w w':=⟨h.os,h.tape,h.output,h.size,fun k hk _=>h.block k hk⟩
theorem Kp.alloc{S:List Nat}{w w1:World}(h:Kp S w w1)(o:Obj):Kp S w (w1.alloc o):=
 h.trans (T:=[]) ⟨rfl,rfl,rfl,by simp,fun k hk _=>Below.heap_alloc w1 o k hk⟩ (by simp)
theorem Kp.drew{S:List Nat}{w w1:World}(h:Kp S w w1):Kp S w w1.drew:=⟨h.os,h.tape,h.output,h.size,h.block⟩
theorem Kp.drewN{S:List Nat}{w w1:World}(h:Kp S w w1)(n:Nat):Kp S w (w1.drewN n):=⟨h.os,h.tape,h.output,h.size,h.block⟩
theorem Kp.setCell{S:List Nat}{w w1:World}(h:Kp S w w1){a:Addr}(ha:a.block∈S\/w.heap.size<=a.block)(u:Value):Kp S w (w1.setCell a u):=
 h.trans (T:=[a.block]) ⟨rfl,rfl,rfl,by simp,fun k _ hk=>heap_setCell_other w1 a k u (by simpa using hk)⟩ (by simpa using ha)
theorem Kp.grown{S:List Nat}{w w1 w2:World}{row:Option Nat}(h:Kp S w w1)(hg:w1.grownBy w2 row)(hr:∀k,row=some k->k∈S\/w.heap.size<=k):Kp S w w2:=
 h.trans (T:=row.toList) ⟨hg.os,hg.tape,hg.output,hg.size,fun k hk hn=>hg.block k hk (by rintro rfl;simp at hn)⟩ (by cases row<;>simp_all)
theorem Kp.cell{S:List Nat}{w w1:World}(h:Kp S w w1){a:Addr}{v:Value}(hc:w.cell? a=some v)(ha:a.block∉S):w1.cell? a=some v:=
 (World.cell?_of_block (h.block _ (World.block_lt_of_cell? w a hc) ha)).trans hc
theorem Kp.blk{S:List Nat}{w w1:World}(h:Kp S w w1){k:Nat}{o:Obj}(hb:w.heap[k]?=some o)(hk:k∉S):w1.heap[k]?=some o:=
 (h.block k (lt_of_block hb) hk).trans hb
theorem Kp.own{S:List Nat}{w w1:World}(h:Kp S w w1){base:Nat}{e:TypeId}{size:Nat}{v:Value}{n:Nat}{xs:List Value}(ho:w.ownsRow base e size v n xs)
 (hv:∀k,v.ownBlock=some k->k∉S):w1.ownsRow base e size v n xs:=by
 refine⟨ho.1, ?_⟩
 rcases ho.2 with hn|⟨g,cap,cur,rfl,hb,hgg,rest⟩
 ·exact .inl hn
 ·exact .inr ⟨g,cap,cur,rfl,hb,h.blk hgg (hv g rfl),rest⟩
theorem own_store{w:World}{e:TypeId}{g n cap:Nat}{xs:List Value}(h:w.ownsRow 0 e 1 (.slice (some ⟨g,0,none⟩) n cap) n xs)(j:Nat)(hj:j<n)(u:Value):
 (∃x,w.cell? ⟨g,j,none⟩=some x)/\w.frozen? ⟨g,j,none⟩=false/\(w.setCell ⟨g,j,none⟩ u).ownsRow 0 e 1 (.slice (some ⟨g,0,none⟩) n cap) n (xs.set j u):=by
 have hx:xs.length=n:=by simpa using h.1
 refine⟨⟨xs[j], ?_⟩,h.frozenAt j,(h.stored j u).1⟩
 rw[h.cellAt j (by omega)]
 simp
def Rd(w:World)(A:Option Addr)(vs:List Value):Prop:=
 ∀j v,vs[j]?=some v->∃a,A=some a/\w.cell? (a.add j)=some v
def Off(S:List Nat)(A:Option Addr):Prop:=∀a,A=some a->a.block∉S
theorem add_block(a:Addr)(n:Nat):(a.add n).block=a.block:=by unfold Addr.add;split<;>rfl
theorem Kp.rd{S:List Nat}{w w1:World}(h:Kp S w w1){A:Option Addr}{vs:List Value}(hr:Rd w A vs)(ho:Off S A):Rd w1 A vs:=by
 intro j v hv
 obtain⟨a,rfl,hc⟩:=hr j v hv
 exact⟨a,rfl,h.cell hc (by rw[add_block];exact ho a rfl)⟩
theorem Rd.lt{w:World}{A:Option Addr}{vs:List Value}(h:Rd w A vs)(hn:0<vs.length):∃a,A=some a/\a.block<w.heap.size:=by
 obtain⟨a,ha,hc⟩:=h 0 vs[0] (by simp)
 exact⟨a,ha,by have:=World.block_lt_of_cell? w _ hc;rwa[add_block] at this⟩
theorem Kp.rd_new{S:List Nat}{w w1:World}(h:Kp S w w1){A:Option Addr}{vs:List Value}(hr:Rd w A vs)(ho:∀x∈S,w.heap.size<=x):Rd w1 A vs:=by
 intro j v hv
 obtain⟨a,rfl,hc⟩:=hr j v hv
 have hl:=World.block_lt_of_cell? w _ hc
 exact⟨a,rfl,h.cell hc (fun hm=>by have:=ho _ hm;omega)⟩
theorem Rd.nil(w:World)(A:Option Addr):Rd w A []:=fun j v h=>by simp at h
theorem add_zero'(a:Addr):a.add 0=a:=by unfold Addr.add;split<;>simp_all
theorem add_add'(a:Addr)(i j:Nat):(a.add i).add j=a.add (i+j):=by
 obtain⟨b,o,s⟩:=a
 cases s<;>simp only[Addr.add]<;>(repeat' split)<;>simp_all<;>omega
theorem Rd.take{w:World}{A:Option Addr}{vs:List Value}(h:Rd w A vs)(n:Nat):Rd w A (vs.take n):=by
 intro j v hv
 rw[List.getElem?_take] at hv
 split at hv
 ·exact h j v hv
 ·cases hv
theorem Rd.drop{w:World}{a:Addr}{vs:List Value}(h:Rd w (some a) vs)(n:Nat):Rd w (some (a.add n)) (vs.drop n):=by
 intro j v hv
 rw[List.getElem?_drop] at hv
 obtain⟨a',ha,hc⟩:=h (n+j) v hv
 cases ha
 exact⟨_,rfl,by rw[add_add'];exact hc⟩
def cutAt(a:Addr)(c n:Nat):Addr:=if c=n then a else a.add n
theorem Rd.cut{w:World}{a:Addr}{vs:List Value}{c n:Nat}(h:Rd w (some a) vs)(hc:vs.length<=c):Rd w (some (cutAt a c n)) (vs.drop n):=by
 unfold cutAt
 split
 ·rw[List.drop_of_length_le (by omega)]
  exact Rd.nil _ _
 ·exact h.drop n
theorem Rd.app{w:World}{A:Option Addr}{vs us:List Value}(h:Rd w A (vs++us)):Rd w A vs:=by
 intro j v hv
 exact h j v (by rw[List.getElem?_append_left (List.getElem?_eq_some_iff.1 hv).1];exact hv)
def iv(k:IntKind)(xs:List Int):List Value:=xs.map (Value.int k)
theorem iv_len(k:IntKind)(xs:List Int):(iv k xs).length=xs.length:=by simp[iv]
theorem iv_app(k:IntKind)(xs ys:List Int):iv k (xs++ys)=iv k xs++iv k ys:=by simp[iv]
theorem iv_take(k:IntKind)(xs:List Int)(n:Nat):(iv k xs).take n=iv k (xs.take n):=by simp[iv,List.map_take]
theorem iv_drop(k:IntKind)(xs:List Int)(n:Nat):(iv k xs).drop n=iv k (xs.drop n):=by simp[iv,List.map_drop]
theorem iv_one(k:IntKind)(xs:List Int):∀u∈iv k xs,u.oneCell'=true:=by
 intro u hu
 obtain⟨_,_,rfl⟩:=List.mem_map.1 hu
 rfl
theorem iv_get(k:IntKind)(xs:List Int)(j:Nat)(h:j<xs.length):(iv k xs)[j]?=some (.int k xs[j]):=by simp[iv,h]
def rd(xs:List Int)(i:Int):Int:=xs.getD i.toNat 0
theorem Rd.int{w:World}{A:Option Addr}{k:IntKind}{xs:List Int}(h:Rd w A (iv k xs))(i:Nat)(hi:i<xs.length):
 ∃a,A=some a/\w.cell? (a.add i)=some (.int k xs[i]):=h i _ (iv_get k xs i hi)
theorem own_rd{w:World}{base:Nat}{e:TypeId}{size:Nat}{v:Value}{n:Nat}{xs:List Value}(h:w.ownsRow base e size v n xs):
 ∃A c,v= .slice A n c/\n<=c/\c<=maxLen/\Rd w A xs/\(A=none->c=0):=by
 rcases h.2 with⟨rfl,rfl⟩|⟨g,cap,cur,rfl,hb,hh,h1,h2,h3,h4⟩
 ·have:xs=[]:=List.eq_nil_of_length_eq_zero (by simpa using h.1)
  subst this
  exact⟨none,0,rfl,Nat.le_refl _,Nat.zero_le _,Rd.nil _ _,fun _=>rfl⟩
 ·exact⟨_,cap,rfl,h1,h2,fun j u hu=>⟨_,rfl,h.cells (g:=g) rfl j u hu⟩,by simp⟩
theorem own_form{w:World}{base:Nat}{e:TypeId}{size:Nat}{v:Value}{n:Nat}{xs:List Value}(h:w.ownsRow base e size v n xs)(hn:0<n):
 ∃g cap,v= .slice (some ⟨g,0,none⟩) n cap/\n<=cap/\cap<=9223372036854775807:=by
 rcases h.2 with⟨rfl,rfl⟩|⟨g,cap,cur,rfl,hb,hh,h1,h2,h3,h4⟩
 ·omega
 ·exact⟨g,cap,rfl,h1,h2⟩
theorem own_take{w:World}{base:Nat}{e:TypeId}{v:Value}{g n m cap:Nat}{xs:List Value}(h:w.ownsRow base e 1 v n xs)(hv:v= .slice (some ⟨g,0,none⟩) n cap)(hm:m<=n):
 w.ownsRow base e 1 (.slice (some ⟨g,0,none⟩) m cap) m (xs.take m):=by
 subst hv
 rcases h.2 with⟨h1,_⟩|⟨g',cap',cur,h0,hb,hh,h1,h2,h3,h4⟩
 ·cases h1
 ·cases h0
  have hx:xs.length=n:=by simpa using h.1
  refine⟨by simp;omega,.inr ⟨g,cap,cur,rfl,hb,hh,by omega,h2,h3, ?_⟩⟩
  rw[<-h4,List.take_take]
  congr 1
  omega
theorem own_lt{w:World}{base:Nat}{e:TypeId}{size:Nat}{v:Value}{n:Nat}{xs:List Value}(h:w.ownsRow base e size v n xs)(k:Nat)(hk:v.ownBlock=some k):k<w.heap.size:=(h.lt k hk).2
theorem own_base{w:World}{base base':Nat}{e:TypeId}{size:Nat}{v:Value}{n:Nat}{xs:List Value}(h:w.ownsRow base e size v n xs)(hb:∀k,v.ownBlock=some k->base'<=k):w.ownsRow base' e size v n xs:=by
 refine⟨h.1, ?_⟩
 rcases h.2 with h2|⟨g,cap,cur,rfl,_,r⟩
 ·exact .inl h2
 ·exact .inr ⟨g,cap,cur,rfl,hb g rfl,r⟩
theorem blk_alloc{w:World}{k:Nat}{o:Obj}(h:w.heap[k]?=some o)(x:Obj):(w.alloc x).heap[k]?=some o:=(Below.heap_alloc w x k (lt_of_block h)).trans h
theorem bkc{w:World}{b:Nat}{cs:Array Value}{t:TypeId}(h:w.heap[b]?=some (.cells cs t (0,0)))(j:Nat){v:Value}(hv:cs[j]?=some v):w.cell? ⟨b,j,none⟩=some v:=(cell_of_row w b j cs t (0,0) h).trans hv
theorem ownBlock_slice(A:Option Addr)(n c:Nat):(Value.slice A n c).ownBlock=A.map Addr.block:=by cases A<;>rfl
theorem blk_free{w:World}{b:Nat}{cs:Array Value}{t:TypeId}(h:w.heap[b]?=some (.cells cs t (0,0)))(j:Nat):w.frozen? ⟨b,j,none⟩=false:=frozen_of_row w b j cs t h
def At(n:Nat)(g g':Option Nat):Prop:=g'=g\/∃k,g'=some k/\n<=k
theorem At.low{n m:Nat}{g g':Option Nat}(h:At n g g')(hm:m<=n):At m g g':=by
 rcases h with h|⟨k,h,hk⟩
 ·exact .inl h
 ·exact .inr ⟨k,h,by omega⟩
theorem At.refl(n:Nat)(g:Option Nat):At n g g:= .inl rfl
theorem At.trans{n m:Nat}{g g1 g2:Option Nat}(h:At n g g1)(k:At m g1 g2)(hm:n<=m):At n g g2:=by
 rcases k with rfl|⟨k,rfl,hk⟩
 ·exact h
 ·exact .inr ⟨k,rfl,by omega⟩
theorem At.ge{n lo:Nat}{g g':Option Nat}(h:At n g g')(hn:lo<=n)(hg:∀k,g=some k->lo<=k):∀k,g'=some k->lo<=k:=by
 intro k hk
 rcases h with rfl|⟨j,rfl,hj⟩
 ·exact hg k hk
 ·have:=Option.some.inj hk
  omega
theorem At.off{n:Nat}{g g':Option Nat}(h:At n g g'){x:Nat}(hx:x<n)(hg:g≠some x):g'≠some x:=by
 rcases h with rfl|⟨k,rfl,hk⟩
 ·exact hg
 ·intro e
  have:=Option.some.inj e
  omega
def RdS(S:List Nat)(w:World)(A:Option Addr)(vs:List Value):Prop:=
 ∀j v,vs[j]?=some v->∃a,A=some a/\a.block∉S/\w.cell? (a.add j)=some v
theorem RdS.rd{S:List Nat}{w:World}{A:Option Addr}{vs:List Value}(h:RdS S w A vs):Rd w A vs:=fun j v hv=>by
 obtain⟨a,h1,_,h2⟩:=h j v hv
 exact⟨a,h1,h2⟩
theorem RdS.kp{S T:List Nat}{w w1:World}{A:Option Addr}{vs:List Value}(h:RdS S w A vs)(k:Kp T w w1)(hT:∀x∈T,x∈S\/w.heap.size<=x):RdS S w1 A vs:=by
 intro j v hv
 obtain⟨a,rfl,h1,h2⟩:=h j v hv
 have hl:=World.block_lt_of_cell? w _ h2
 rw[add_block] at hl
 exact⟨a,rfl,h1,k.cell h2 (by rw[add_block];intro hm;rcases hT _ hm with h|h;exact h1 h;omega)⟩
theorem RdS.new{S:List Nat}{w w1:World}{A:Option Addr}{vs:List Value}(h:Rd w A vs)(k:Kp [] w w1)(hS:∀x∈S,w.heap.size<=x):RdS S w1 A vs:=by
 intro j v hv
 obtain⟨a,rfl,h2⟩:=h j v hv
 have hl:=World.block_lt_of_cell? w _ h2
 rw[add_block] at hl
 exact⟨a,rfl,fun hm=>by have:=hS _ hm;omega,k.cell h2 (by simp)⟩
theorem RdS.int{S:List Nat}{w:World}{A:Option Addr}{k:IntKind}{xs:List Int}(h:RdS S w A (iv k xs))(i:Nat)(hi:i<xs.length):
 ∃a,A=some a/\w.cell? (a.add i)=some (.int k xs[i]):=h.rd.int i hi
theorem RdS.lit{S:List Nat}(w:World)(us:List Value)(t:TypeId)(hS:∀x∈S,x<w.heap.size):RdS S (w.alloc (.cells us.toArray t)) (some ⟨w.heap.size,0,none⟩) us:=by
 intro j v hv
 refine⟨_,rfl,fun hm=>by have:=hS _ hm;simp at this, ?_⟩
 rw[Addr.add_lit,World.cell?_alloc_new]
 simpa using hv
def Rs(S:List Nat)(w:World)(A:Option Addr)(l:List (List Int)):Prop:=
 ∀j (h:j<l.length),∃a Aj cj,A=some a/\a.block∉S/\w.cell? (a.add j)=some (.slice Aj l[j].length cj)/\l[j].length<=cj/\(Aj=none->cj=0)/\RdS S w Aj (iv .u8 l[j])
theorem Rs.kp{S T:List Nat}{w w1:World}{A:Option Addr}{l:List (List Int)}(h:Rs S w A l)(k:Kp T w w1)(hT:∀x∈T,x∈S\/w.heap.size<=x):Rs S w1 A l:=by
 intro j hj
 obtain⟨a,Aj,cj,rfl,h0,hc,h1,h2,h3⟩:=h j hj
 have hl:=World.block_lt_of_cell? w _ hc
 rw[add_block] at hl
 exact⟨a,Aj,cj,rfl,h0,k.cell hc (by rw[add_block];intro hm;rcases hT _ hm with h|h;exact h0 h;omega),h1,h2,h3.kp k hT⟩
theorem rds_mark{S:List Nat}(w:World)(us:List Value)(t:TypeId)(f:Nat×Nat)(hS:∀x∈S,x<w.heap.size):RdS S (w.alloc (.cells us.toArray t f)) (some ⟨w.heap.size,0,none⟩) us:=by
 intro j v hv
 refine⟨_,rfl,fun hm=>by have:=hS _ hm;simp at this, ?_⟩
 rw[Addr.add_lit]
 simp only[World.cell?,Nat.zero_add]
 rw[heap_alloc_new]
 simpa using hv
theorem rs_cell{S:List Nat}(w:World)(A:Option Addr)(xs:List Int)(n c:Nat)(hn:xs.length=n)(hc:n<=c)(hnil:A=none->c=0)(u:TypeId)(hr:RdS S w A (iv .u8 xs))(hS:∀x∈S,x<w.heap.size):
 Rs S (w.alloc (.cells #[.slice A n c] u)) (some ⟨w.heap.size,0,none⟩) [xs]:=by
 subst hn
 intro j hj
 obtain rfl:j=0:=by simpa using hj
 refine⟨_,A,c,rfl,fun hm=>by have:=hS _ hm;simp at this, ?_,hc,hnil,hr.kp ((Kp.refl [] w).alloc _) (by simp)⟩
 rw[add_zero']
 simp
def Own(e:TypeId)(k:IntKind)(w:World)(lo:Nat)(v:Value)(xs:List Int):Prop:=w.ownsRow 0 e 1 v xs.length (iv k xs)/\∀g,v.ownBlock=some g->lo<=g
def RetOwn(e:TypeId)(k:IntKind)(w:World)(xs:List Int)(en:Ending)(w':World):Prop:=∃v,en= .returned v/\Own e k w' w.heap.size v xs/\Kp [] w w'
theorem Own.nil(e:TypeId)(k:IntKind)(w:World)(lo:Nat):Own e k w lo (.slice none 0 0) []:=⟨World.ownsRow_nil w 0 e 1,by intro g hg;simp[Value.ownBlock] at hg⟩
theorem Own.lower{e:TypeId}{k:IntKind}{w:World}{lo lo':Nat}{v:Value}{xs:List Int}(h:Own e k w lo v xs)(hl:lo'<=lo):Own e k w lo' v xs:=⟨h.1,fun g hg=>Nat.le_trans hl (h.2 g hg)⟩
theorem Own.kp{e:TypeId}{k:IntKind}{w w1:World}{lo:Nat}{v:Value}{xs:List Int}{S:List Nat}(h:Own e k w lo v xs)(hk:Kp S w w1)(hS:∀g,v.ownBlock=some g->g∉S):Own e k w1 lo v xs:=⟨hk.own h.1 hS,h.2⟩
theorem kp_of_new{w w1:World}{o:Obj}(k:Kp (Value.slice (some ⟨w.heap.size,0,none⟩) 0 0).ownBlock.toList (w.alloc o) w1):Kp [] w w1:=
 ((Kp.refl [] w).alloc o).trans k (by simp[Value.ownBlock])
theorem own_of_app{e:TypeId}{k:IntKind}{w1:World}{v v1:Value}{m n lo:Nat}{ys:List Int}(hm:ys.length=m)(o:w1.ownsRow 0 e 1 v1 (0+m) ([]++iv k ys))(a:At n v.ownBlock v1.ownBlock)(hn:lo<=n)
 (hv:∀g,v.ownBlock=some g->lo<=g):Own e k w1 lo v1 ys:=⟨by rw[hm];simpa using o,a.ge hn hv⟩
theorem one_cell{e:TypeId}{k:IntKind}{w:World}{lo g n cap:Nat}{c:Int}(h:Own e k w lo (.slice (some ⟨g,0,none⟩) n cap) [c]):w.cell? ⟨g,0,none⟩=some (.int k c):=by
 obtain⟨A,c',hv,_,_,hr,_⟩:=own_rd h.1
 cases hv
 obtain⟨a,ha,hc⟩:=hr 0 _ rfl
 cases ha
 rwa[add_zero'] at hc
theorem rd_nil_of_none{w:World}{vs:List Value}(h:Rd w none vs):vs=[]:=by
 cases vs with
 |nil=>rfl
 |cons x r=>obtain⟨a,ha,_⟩:=h 0 x rfl;cases ha
theorem iv_nil{k:IntKind}{xs:List Int}(h:iv k xs=[]):xs=[]:=by simpa [iv] using h
theorem Own.rds{e:TypeId}{w:World}{lo:Nat}{A:Option Addr}{n c:Nat}{xs:List Int}{S:List Nat}(h:Own e .u8 w lo (.slice A n c) xs)(hS:∀x∈S,x<lo):RdS S w A (iv .u8 xs):=by
 obtain⟨A',c',hv,_,_,hr,_⟩:=own_rd h.1
 cases hv
 intro j v hv
 obtain⟨a,rfl,hc⟩:=hr j v hv
 exact⟨a,rfl,fun hm=>by have:=hS _ hm;have:=h.2 a.block rfl;omega,hc⟩
theorem Own.len{e:TypeId}{k:IntKind}{w:World}{lo:Nat}{A:Option Addr}{n c:Nat}{xs:List Int}(h:Own e k w lo (.slice A n c) xs):xs.length=n:=by
 rcases h.1.2 with⟨h1,h2⟩|⟨g,cap,cur,h1,_⟩
 ·cases h1;exact h2
 ·cases h1;rfl
def Wf(xs:List Int):Prop:=∀x∈xs,0<=x/\x<256
theorem Wf.drop{xs:List Int}(h:Wf xs)(n:Nat):Wf (xs.drop n):=fun x hx=>h x (List.mem_of_mem_drop hx)
theorem Wf.take{xs:List Int}(h:Wf xs)(n:Nat):Wf (xs.take n):=fun x hx=>h x (List.mem_of_mem_take hx)
theorem Wf.nil:Wf []:=fun x hx=>by simp at hx
end Go.Proofs.YtdiljpdohmeceaaGreat.H
namespace Go.Proofs.YtdiljpdohmeceaaGreat.H
open Go.ChangeShapes Go.WideShapes Go.ChangeAt Go.RowKit Go.Deep
section
variable {H:Type} {enc:TypeId×Value->H} {P:Program} {W:World}
theorem open_nums{t e:TypeId}{k:IntKind}{A:Option Addr}{n c:Nat}{d:DataW H}{ps:List MemPlace}(ht:P.underlying t=some (.slice e))(he:P.underlying e=some (.int k))(hc:P.cellsOf e=1)
 (h:DataW.Trod enc P W 0 (fun _=>true) true t (.slice A n c) d ps):
 ∃xs:List Int,xs.length=n/\Rd W A (iv k xs)/\n<=c/\c<=9223372036854775807/\(A=none->c=0)/\∀x∈xs,(Lit.int k x).wf=true:=by
 obtain⟨fuel,hf⟩:=h
 rcases open_ints ht he hc hf with⟨hcs,_⟩|⟨x,l,cp,zs,hcs,_,hl,hm,hz,_,hcell,hwz⟩
 ·simp[Value.cells] at hcs
  obtain⟨rfl,rfl,rfl⟩:=hcs
  exact⟨[],rfl,Rd.nil _ _,Nat.le_refl _,by omega,fun _=>rfl,by simp⟩
 ·simp[Value.cells] at hcs
  obtain⟨rfl,rfl,rfl⟩:=hcs
  have hz':zs.length=c:=by simpa using hz
  refine⟨zs.take n,by rw[List.length_take];omega, ?_,hl,hm,by simp,fun y hy=>hwz y (List.mem_of_mem_take hy)⟩
  intro j v hv
  have hj:j<n:=by
   have:=(List.getElem?_eq_some_iff.1 hv).1
   rw[iv_len,List.length_take] at this
   omega
  refine⟨x,rfl, ?_⟩
  rw[hcell j (by omega),<-hv]
  simp[iv,hj,show j<zs.length by omega]
end
theorem wf_u8{x:Int}(h:(Lit.int .u8 x).wf=true):0<=x/\x<256:=by
 have:0<=x/\x<=255:=by simpa [Lit.wf,IntKind.min,IntKind.max,IntKind.signed,IntKind.bits] using h
 omega
end Go.Proofs.YtdiljpdohmeceaaGreat.H
namespace Go.Proofs.YtdiljpdohmeceaaGreat.H
open Go.RowKit
theorem run_app{P:Program}(w:World)(t ty e:TypeId)(z:Value)(size bytes:Nat)(ht:P.underlying t=some (.slice e))
 (hI:(P.info? e).map (fun i=>(i.zero,i.size,i.bytes))=some (some z,size,bytes)) (hzs:z.cells.size=size) (hsz:0<size)
 (v:Value) (n:Nat) (xs:List Value) (hown:w.ownsRow 0 e size v n xs)
 (A:Option Addr) (m c:Nat) (news:List Value) (hl:news.length=m*size) (hrd:Rd w A news) (hnil:A=none->c=0) (h1:∀u∈news,u.oneCell'=true)
 (hb:(n+m)*bytes<=140737488355328) (hm:n+m<=140737488355328):
 ∃v' w',(Builtin.append_ #[t,t] ty #[v,.slice A m c]).run P w= .ok v' w'/\w'.ownsRow 0 e size v' (n+m) (xs++news)/\Kp v.ownBlock.toList w w'/\
  At w.heap.size v.ownBlock v'.ownBlock/\(v'= .slice none 0 0->v= .slice none 0 0):=by
 obtain⟨i,hi,hz,hs,hby⟩:=info_parts hI
 have h63:n+m<=maxLen:=by unfold maxLen;omega
 cases A with
 |none=>
  have hc:=hnil rfl
  have hn0:news=[]:=by
   cases news with
   |nil=>rfl
   |cons x r=>obtain⟨a,ha,_⟩:=hrd 0 x rfl;cases ha
  subst hn0
  have hm0:m=0:=by
   rcases Nat.eq_zero_or_pos m with h|h
   ·exact h
   ·have:0<m*size:=Nat.mul_pos h hsz
    simp at hl
    omega
  subst hm0 hc
  exact⟨v,w,run_append_owned_none w 0 t ty e i size ht hi v n xs hown,by simpa using hown,Kp.refl _ _,At.refl _ _,fun h=>h⟩
 |some a=>
  have hnews:∀j u,news[j]?=some u->w.cell? (a.add j)=some u:=by
   intro j u hu
   obtain⟨a',ha,hc⟩:=hrd j u hu
   cases ha
   exact hc
  obtain⟨v',w',hr,h2,h3,h4⟩:=run_append_own (P:=P) w 0 t ty e i z size bytes ht hi hz hs hby hzs hsz v n xs hown a m c news hl hnews h1 h63 hb (Nat.zero_le _)
  refine⟨v',w',hr,h2,(Kp.refl _ w).grown h3 (fun k hk=> .inl (by simp[hk])), ?_,fun h=>(h4.1 h).1⟩
  rcases hown.2 with⟨rfl,rfl⟩|⟨g,cap,cur,rfl,hbg,hg,hnc,hcm,hcs,htake⟩
  ·rcases Nat.eq_zero_or_pos m with hm0|hm0
   ·rw[h4.2 ⟨rfl,hm0⟩]
    exact .inl rfl
   ·have hr2:=run_append_nil (P:=P) w t ty e i z ht hi hz a m c news (by rw[hs];exact hl) hnews hm0 (by omega) (by rw[hby];have:=hb;simp only[Nat.zero_add] at this;omega)
    rw[hr2] at hr
    injection hr with e1 e2
    subst e1
    exact .inr ⟨_,rfl,Nat.le_refl _⟩
  ·by_cases hroom:n+m<=cap
   ·obtain⟨w2,hr2,_⟩:=run_append_fits (P:=P) w 0 t ty e i size ht hi hs g n cap xs hown a m c news hl hnews h1 hroom
    rw[hr2] at hr
    injection hr with e1 e2
    subst e1
    exact .inl rfl
   ·have hr2:=run_append_grow (P:=P) w t ty e i z ht hi hz ⟨g,0,none⟩ n cap xs (by rw[hs];exact hown.1) (hown.cells (g:=g) rfl) a m c news (by rw[hs];exact hl) hnews (by omega) (by omega)
     (growslice_fits (by omega) (by rw[hby];exact hb))
    rw[hr2] at hr
    injection hr with e1 e2
    subst e1
    exact .inr ⟨_,rfl,Nat.le_refl _⟩
theorem wpList_app{P:Program}{w:World}{ops:Array Oper}{rest:List Oper}{o:Oper}{a:Act}{Q:Exit->Act->World->Prop}(hgd:o.guard=none)(s x:Operand)(t:TypeId)
 (ho:o.op= .call {callee:= .builtin .append,args:= #[s,x],argTypes:= #[t,t]}) (e:TypeId) (z:Value) (size bytes:Nat) (ht:P.underlying t=some (.slice e))
 (hI:(P.info? e).map (fun i=>(i.zero,i.size,i.bytes))=some (some z,size,bytes)) (hzs:z.cells.size=size) (hsz:0<size)
 (v:Value) (n:Nat) (xs:List Value) (hs:a.eval s=v) (hown:w.ownsRow 0 e size v n xs)
 (A:Option Addr) (m c:Nat) (news:List Value) (hx:a.eval x= .slice A m c) (hl:news.length=m*size) (hrd:Rd w A news) (hnil:A=none->c=0) (h1:∀u∈news,u.oneCell'=true)
 (hb:(n+m)*bytes<=140737488355328) (hm:n+m<=140737488355328)
 (h:∀v' w',w'.ownsRow 0 e size v' (n+m) (xs++news)->Kp v.ownBlock.toList w w'->At w.heap.size v.ownBlock v'.ownBlock->(v'= .slice none 0 0->v= .slice none 0 0)->
  wpList P ops Q rest (a.put o.dst v') w'):wpList P ops Q (o::rest) a w:=by
 refine wpList_plain hgd fun K hK=> ?_
 obtain⟨v',w',hr,h2,h3,h4,h5⟩:=run_app (P:=P) w t o.type e z size bytes ht hI hzs hsz v n xs hown A m c news hl hrd hnil h1 hb hm
 unfold Oper.wp execOp
 simp only[ho,resolve,invoke,builtin,Sem.run_bind,Sem.run_pure,Result.andThen_ok,List.map_toArray,List.map_cons,List.map_nil,hs,hx,hr]
 exact hK _ _ (h v' w' h2 h3 h4 h5)
theorem or128_fin:∀b:Fin 256,bits .or .u8 ((b.val:Nat):Int) 128=((b.val%128+128:Nat):Int):=by decide+kernel
theorem or128(u:Nat):bits .or .u8 ((u:Int)%256) 128=(u:Int)%128+128:=by
 have h:=or128_fin ⟨u%256,Nat.mod_lt _ (by decide)⟩
 have e1:(((u%256:Nat)):Int)=(u:Int)%256:=by omega
 have e2:((u%256%128+128:Nat):Int)=(u:Int)%128+128:=by omega
 simp only[e1,e2] at h
 exact h
theorem and127(y:Int)(h0:0<=y)(h1:y<256):bits .and .u8 y 127=y%128:=bits_mask .u8 8 (by decide) wraps_u8 7 (by decide) y h0 h1
theorem wraps_u64(n:Int)(h0:0<=n)(h1:n<2^63):IntKind.u64.wrap n=n:=by rw[IntKind.wrap_u64];omega
theorem or_comm'(k:IntKind)(a b:Int):bits .or k a b=bits .or k b a:=by simp only[bits,BitVec.or_comm]
theorem and127_u64(u:Nat)(h:u<=4611686018427387904):bits .and .u64 (u:Int) 127=(u:Int)%128:=bits_mask .u64 63 (by decide) wraps_u64 7 (by decide) u (by omega) (by omega)
theorem or128'(u:Nat)(h:u<=4611686018427387904):bits .or .u8 (bits .and .u64 (u:Int) 127%256) 128=(u:Int)%128+128:=by
 rw[and127_u64 u h]
 have:=or128 (u%128)
 have e:((u%128:Nat):Int)=(u:Int)%128:=by omega
 rw[e] at this
 rw[this]
 omega
theorem num_bits(u k:Nat)(y:Int)(h0:0<=y)(h1:y<256)(hk:k<=8)(hu:u<128^k):
 bits .or .u64 (u:Int) (IntKind.u64.wrap (IntKind.u64.wrap (bits .and .u8 y 127)*2^(7*k)))=((u+y.toNat%128*128^k:Nat):Int):=by
 have hp:(2:Nat)^(7*k)=128^k:=by rw[Nat.pow_mul]
 have hpi:(2:Int)^(7*k)=((128^k:Nat):Int):=by rw[<-hp];simp
 have hle:(128:Nat)^k<=128^8:=Nat.pow_le_pow_right (by decide) hk
 have h8:(128:Nat)^8=72057594037927936:=by decide
 have e1:IntKind.u64.wrap (y%128)=((y.toNat%128:Nat):Int):=by rw[wraps_u64 _ (by omega) (by omega)];omega
 have hm:y.toNat%128*128^k<9223372036854775808:=by
  have:y.toNat%128*128^k<=127*72057594037927936:=Nat.mul_le_mul (by omega) (by omega)
  omega
 have e2:((y.toNat%128:Nat):Int)*((128^k:Nat):Int)=((y.toNat%128*128^k:Nat):Int):=by rw[Int.natCast_mul]
 rw[and127 y h0 h1,e1,hpi,e2,wraps_u64 _ (by omega) (by omega),or_comm',
  bits_join .u64 63 (by decide) wraps_u64 (7*k) _ _ (by omega) (by rw[hpi,<-e2];exact Int.mul_emod_left _ _) (by omega) (by omega) (by rw[hpi];omega) (by omega)]
 omega
theorem rd_one(w:World)(u:Value)(t:TypeId):Rd (w.alloc (.cells #[u] t)) (some ⟨w.heap.size,0,none⟩) [u]:=by
 intro j v hv
 match j,hv with
 |0,hv=>simp at hv;subst hv;exact⟨_,rfl,by simp[Addr.add]⟩
theorem rd_new(w:World)(us:List Value)(t:TypeId):Rd (w.alloc (.cells us.toArray t)) (some ⟨w.heap.size,0,none⟩) us:=by
 intro j v hv
 refine⟨_,rfl, ?_⟩
 rw[Addr.add_lit,World.cell?_alloc_new]
 simpa using hv
theorem own_new(w:World)(us:List Value)(e:TypeId)(hl:us.length<=maxLen):(w.alloc (.cells us.toArray e)).ownsRow 0 e 1 (.slice (some ⟨w.heap.size,0,none⟩) us.length us.length) us.length us:=by
 have:=World.ownsRow_lit (base:=0) (e:=e) (size:=1) w us.toArray us.length (Nat.zero_le _) hl (by simp)
 simpa using this
end Go.Proofs.YtdiljpdohmeceaaGreat.H
namespace Go.Proofs.YtdiljpdohmeceaaGreat.O
def cl(n:Int):Nat:=if n<0 then 0 else if 4611686018427387904<n then 4611686018427387904 else n.toNat
theorem cl_le(n:Int):cl n<=4611686018427387904:=by unfold cl;split<;>(try split)<;>omega
theorem cl_of{n:Int}(h0:0<=n)(h1:n<=4611686018427387904):(cl n:Int)=n:=by unfold cl;split<;>(try split)<;>omega
theorem cl_if(x:Int):(if min x 4611686018427387904>0 then min x 4611686018427387904 else 0)=(cl x:Int):=by
 unfold cl
 split<;>split<;>(try split)<;>omega
def enc(u:Nat):List Int:=if u<128 then[(u:Int)] else((u:Int)%128+128)::enc (u/128)
termination_by u
decreasing_by omega
theorem enc_lo{u:Nat}(h:u<128):enc u=[(u:Int)]:=by rw[enc,if_pos h]
theorem enc_hi{u:Nat}(h:¬u<128):enc u=((u:Int)%128+128)::enc (u/128):=by rw[enc,if_neg h]
theorem enc_len:∀(k u:Nat),u<128^(k+1)->(enc u).length<=k+1
 |0,u,h=>by rw[enc_lo (by simpa using h)];simp
 |k+1,u,h=>by
  by_cases h1:u<128
  ·rw[enc_lo h1];simp
  ·rw[enc_hi h1]
   have:=enc_len k (u/128) (by rw[Nat.pow_succ] at h;omega)
   simp only[List.length_cons]
   omega
theorem enc_pos(u:Nat):0<(enc u).length:=by
 by_cases h:u<128
 ·rw[enc_lo h];simp
 ·rw[enc_hi h];simp
theorem enc_u8(u:Nat):∀x∈enc u,0<=x/\x<256:=by
 induction u using Nat.strongRecOn with
 |_ u ih=>
  by_cases h:u<128
  ·rw[enc_lo h];intro x hx;simp at hx;omega
  ·rw[enc_hi h]
   intro x hx
   rcases List.mem_cons.1 hx with rfl|hx
   ·omega
   ·exact ih (u/128) (by omega) x hx
def num(n:Int):List Int:=enc (cl n)
def nums(l:List Int):List Int:=l.flatMap num
def row(x:List Int):List Int:=num x.length++x
def rows(l:List (List Int)):List Int:=l.flatMap row
theorem num_len(n:Int):(num n).length<=9:=enc_len 8 _ (by have:=cl_le n;omega)
theorem num_u8(n:Int):∀x∈num n,0<=x/\x<256:=enc_u8 _
theorem nums_cons(n:Int)(l:List Int):nums (n::l)=num n++nums l:=by simp[nums]
theorem nums_app(a b:List Int):nums (a++b)=nums a++nums b:=by simp[nums]
theorem nums_one(n:Int):nums [n]=num n:=by simp[nums]
theorem nums_nil:nums []=[]:=rfl
theorem nums_len(l:List Int):(nums l).length<=9*l.length:=by
 induction l with
 |nil=>simp[nums]
 |cons x l ih=>rw[nums_cons,List.length_append,List.length_cons];have:=num_len x;omega
theorem nums_u8(l:List Int):∀x∈nums l,0<=x/\x<256:=by
 intro x hx
 obtain⟨n,_,h⟩:=List.mem_flatMap.1 hx
 exact num_u8 n x h
theorem take_succ'{α:Type}(l:List α)(k:Nat)(h:k<l.length):l.take (k+1)=l.take k++[l[k]]:=List.take_succ_eq_append_getElem h
theorem nums_step(l:List Int)(k:Nat)(h:k<l.length):nums (l.take (k+1))=nums (l.take k)++num l[k]:=by
 rw[take_succ' l k h,nums_app,nums_one]
theorem rows_app(a b:List (List Int)):rows (a++b)=rows a++rows b:=by simp[rows]
theorem rows_one(x:List Int):rows [x]=row x:=by simp[rows]
theorem rows_cons(x:List Int)(l:List (List Int)):rows (x::l)=row x++rows l:=by simp[rows]
theorem rows_step(l:List (List Int))(k:Nat)(h:k<l.length):rows (l.take (k+1))=rows (l.take k)++row l[k]:=by
 rw[take_succ' l k h,rows_app,rows_one]
theorem rows_len(l:List (List Int)):(rows l).length<=9*l.length+l.flatten.length:=by
 induction l with
 |nil=>simp[rows]
 |cons x l ih=>
  rw[rows_cons,List.length_append,List.length_cons,List.flatten_cons,List.length_append]
  have h:(row x).length=(num x.length).length+x.length:=by rw[row,List.length_append]
  have:=num_len x.length
  omega
theorem rows_len_take(l:List (List Int))(k:Nat)(h:k<l.length):(rows (l.take k)).length+9+l[k].length<=9*l.length+l.flatten.length:=by
 have h1:=rows_len (l.take k)
 have h2:(l.take (k+1)).flatten.length+(l.drop (k+1)).flatten.length=l.flatten.length:=by
  rw[<-List.length_append,<-List.flatten_append,List.take_append_drop]
 rw[take_succ' l k h,List.flatten_append,List.length_append] at h2
 simp only[List.flatten_cons,List.flatten_nil,List.append_nil,List.length_take] at h1 h2
 omega
theorem row_u8(x:List Int)(h:∀c∈x,0<=c/\c<256):∀c∈row x,0<=c/\c<256:=by
 intro c hc
 rcases List.mem_append.1 hc with hc|hc
 ·exact num_u8 _ c hc
 ·exact h c hc
def decF:Nat->Nat->List Int->Option (Nat×List Int)
 |_,_,[]=>none
 |i,u,c::r=>
  if 9<=i\/(0<i/\c=0) then none
  else if c<128 then(if 4611686018427387904<u+c.toNat*128^i then none else some (u+c.toNat*128^i,r))
  else decF (i+1) (u+(c.toNat-128)*128^i) r
def dec(l:List Int):Option (Nat×List Int):=decF 0 0 l
theorem split128(u v p:Nat):u+v%128*p+v/128*(p*128)=u+v*p:=by
 have h1:v/128*(p*128)=128*(v/128*p):=by rw[<-Nat.mul_assoc,Nat.mul_comm]
 have h2:v*p=128*(v/128*p)+v%128*p:=by
  have h3:(128*(v/128)+v%128)*p=128*(v/128*p)+v%128*p:=by rw[Nat.add_mul,Nat.mul_assoc]
  rwa[Nat.div_add_mod] at h3
 omega
theorem decF_enc:∀(v i u:Nat) (r:List Int),(i=0\/0<v)->u+v*128^i<=4611686018427387904->decF i u (enc v++r)=some (u+v*128^i,r):=by
 intro v
 induction v using Nat.strongRecOn with
 |_ v ih=>
  intro i u r hv hb
  have hi:¬9<=i:=by
   intro h9
   rcases hv with h|h
   ·omega
   ·have:128^9<=128^i:=Nat.pow_le_pow_right (by decide) h9
    have h2:1*128^i<=v*128^i:=Nat.mul_le_mul_right _ h
    have h3:(128:Nat)^9=9223372036854775808:=by decide
    omega
  by_cases h:v<128
  ·rw[enc_lo h]
   simp only[List.cons_append,List.nil_append,decF]
   rw[if_neg (by omega),if_pos (by omega)]
   simp only[Int.toNat_natCast]
   rw[if_neg (by omega)]
  ·rw[enc_hi h]
   simp only[List.cons_append,decF]
   rw[if_neg (by omega),if_neg (by omega)]
   have e1:((v:Int)%128+128).toNat-128=v%128:=by omega
   rw[e1]
   have hp:128^(i+1)=128^i*128:=Nat.pow_succ ..
   have e2:u+v%128*128^i+v/128*128^(i+1)=u+v*128^i:=by rw[hp];exact split128 u v (128^i)
   rw[ih (v/128) (by omega) (i+1) _ r (.inr (by omega)) (by rw[e2];exact hb),e2]
theorem decF_enc0(v:Nat)(r:List Int)(h:v<=4611686018427387904):decF 0 0 (enc v++r)=some (v,r):=by
 have e:0+v*128^0=v:=by rw[Nat.pow_zero,Nat.mul_one,Nat.zero_add]
 have h0:0+v*128^0<=4611686018427387904:=Nat.le_trans (Nat.le_of_eq e) h
 exact(decF_enc v 0 0 r (.inl rfl) h0).trans (congrArg (fun x=>some (x,r)) e)
theorem dec_num(n:Int)(r:List Int):dec (num n++r)=some (cl n,r):=decF_enc0 (cl n) r (cl_le n)
theorem decF_bd:∀(l:List Int) (i u v:Nat) (r:List Int),decF i u l=some (v,r)->v<=4611686018427387904/\∃p,l=p++r/\p≠[]
 |[],i,u,v,r,h=>by simp[decF] at h
 |c::l,i,u,v,r,h=>by
  simp only[decF] at h
  split at h
  ·cases h
  ·split at h
   ·split at h
    ·cases h
    ·simp only[Option.some.injEq,Prod.mk.injEq] at h
     obtain⟨rfl,rfl⟩:=h
     exact⟨by omega,[c],by simp⟩
   ·obtain⟨h1,p,rfl,h2⟩:=decF_bd l _ _ v r h
    exact⟨h1,c::p,by simp⟩
theorem dec_bd{l:List Int}{v:Nat}{r:List Int}(h:dec l=some (v,r)):v<=4611686018427387904:=(decF_bd l 0 0 v r h).1
theorem dec_suffix{l:List Int}{v:Nat}{r:List Int}(h:dec l=some (v,r)):∃p,l=p++r/\p≠[]:=(decF_bd l 0 0 v r h).2
def stNum(s:Option (List Int)):Nat×Option (List Int):=
 match s with
 |none=>(0,none)
 |some l=>match dec l with
  |none=>(0,none)
  |some (v,r)=>(v,some r)
def stRaw(n:Int)(s:Option (List Int)):List Int×Option (List Int):=
 match s with
 |none=>([],none)
 |some l=>if n<0\/(l.length:Int)<n then([],none) else(l.take n.toNat,some (l.drop n.toNat))
def stBytes(s:Option (List Int)):List Int×Option (List Int):=stRaw (stNum s).1 (stNum s).2
def stNums:Nat->Option (List Int)->List Int×Option (List Int)
 |0,s=>([],s)
 |k+1,s=>(((stNum s).1:Int)::(stNums k (stNum s).2).1,(stNums k (stNum s).2).2)
def left(s:Option (List Int)):List Int:=s.getD []
theorem stNum_num(n:Int)(r:List Int):stNum (some (num n++r))=(cl n,some r):=by simp[stNum,dec_num]
theorem stBytes_row(x r:List Int)(hx:x.length<=4611686018427387904):stBytes (some (row x++r))=(x,some r):=by
 have e:(cl x.length:Int)=x.length:=cl_of (by omega) (by omega)
 simp only[stBytes,row,List.append_assoc,stNum_num,stRaw]
 rw[if_neg (by rw[e];simp only[List.length_append];omega),e]
 simp
end Go.Proofs.YtdiljpdohmeceaaGreat.O
namespace Go.Proofs.YtdiljpdohmeceaaGreat.clone
open Go.RowKit H
theorem info_u8:(Tryz.prog.info? 5).map (fun i=>(i.zero,i.size,i.bytes))=some (some (.int .u8 0),1,1):=by kernel_rfl
theorem app8{w:World}{ops:Array Oper}{rest:List Oper}{o:Oper}{a:Act}{Q:Exit->Act->World->Prop}(hgd:o.guard=none)(s x:Operand)
 (ho:o.op= .call {callee:= .builtin .append,args:= #[s,x],argTypes:= #[24,24]})
 (v:Value) (n:Nat) (xs:List Value) (hs:a.eval s=v) (hown:w.ownsRow 0 5 1 v n xs)
 (A:Option Addr) (m c:Nat) (news:List Value) (hx:a.eval x= .slice A m c) (hl:news.length=m) (hrd:Rd w A news) (hnil:A=none->c=0) (h1:∀u∈news,u.oneCell'=true)
 (hm:n+m<=140737488355328)
 (h:∀v' w',w'.ownsRow 0 5 1 v' (n+m) (xs++news)->Kp v.ownBlock.toList w w'->At w.heap.size v.ownBlock v'.ownBlock->
  wpList Tryz.prog ops Q rest (a.put o.dst v') w'):wpList Tryz.prog ops Q (o::rest) a w:=
 wpList_app hgd s x 24 ho 5 (.int .u8 0) 1 1 Tryz.underlying24 info_u8 rfl (by decide) v n xs hs hown A m c news hx (by rw[hl,Nat.mul_one]) hrd hnil h1 (by rw[Nat.mul_one];exact hm) hm
  (fun v' w' h1 h2 h3 _=>h v' w' h1 h2 h3)
theorem app8_one{w:World}{ops:Array Oper}{rest:List Oper}{o:Oper}{a:Act}{Q:Exit->Act->World->Prop}(hgd:o.guard=none)(s x:Operand)
 (ho:o.op= .call {callee:= .builtin .append,args:= #[s,x],argTypes:= #[24,24]})
 (v:Value) (n:Nat) (xs:List Value) (hs:a.eval s=v) (hown:w.ownsRow 0 5 1 v n xs) (y:Int)
 (hx:a.eval x= .slice (some ⟨w.heap.size,0,none⟩) 1 1) (hm:n+1<=140737488355328)
 (h:∀v' w',w'.ownsRow 0 5 1 v' (n+1) (xs++[.int .u8 y])->Kp v.ownBlock.toList (w.alloc (.cells #[.int .u8 y] 5)) w'->At (w.heap.size+1) v.ownBlock v'.ownBlock->
  wpList Tryz.prog ops Q rest (a.put o.dst v') w'):wpList Tryz.prog ops Q (o::rest) a (w.alloc (.cells #[.int .u8 y] 5)):=
 app8 hgd s x ho v n xs hs (hown.alloc _) (some ⟨w.heap.size,0,none⟩) 1 1 [.int .u8 y] hx rfl (rd_one _ _ _) (by simp) (by simp[Value.oneCell']) hm
  (fun v' w' h1 h2 h3=>h v' w' h1 h2 (by simpa using h3))
theorem clone_any(A:Option Addr)(n c:Nat)(xs:List Int)(w:World)(hn:xs.length=n)(h0:Rd w A (iv .u8 xs))(hnil:A=none->c=0)(hb:n<=140737488355328):
 Calls Tryz.prog 118 #[.slice A n c] w (RetOwn 5 .u8 w xs):=by
 subst hn
 have H0:=As.mk h0
 have HN:=As.mk hnil
 clear h0 hnil
 cases A with
 |none=>
  have hx:xs=[]:=iv_nil (rd_nil_of_none H0.out)
  subst hx
  have hc:=HN.out rfl
  subst hc
  have hq:=fun(w:World)=>Lib.run_eql_slice_nil (P:=Tryz.prog) w 24 5 none 0 0 0 0 Tryz.underlying24
  go_enter Tryz.func118,Tryz.ntmps118
  go_wp2
  go_ret
  exact⟨_,rfl,Own.nil _ _ _ _,Kp.refl _ _⟩
 |some a=>
  have hq:=fun(w:World)=>Lib.run_eql_slice_nil (P:=Tryz.prog) w 24 5 (some a) xs.length c 0 0 Tryz.underlying24
  go_enter Tryz.func118,Tryz.ntmps118
  go_wp2_with (at_builtin;refine app8 rfl (.tmp 5) (.tmp 6) rfl (.slice (some ⟨w.heap.size,0,none⟩) 0 0) 0 [] rfl (own_new w [] _ (Nat.zero_le _)) (some a) xs.length c (iv .u8 xs) rfl (iv_len _ _) (((Kp.refl [] w).alloc _).rd_new H0.out (by simp)) (by simp) (iv_one _ _) (by omega) ?_;intro v' w1 hown hk hat;have HO:=As.mk hown;have HK:=As.mk hk;have HA:=As.mk hat;clear hown hk hat)
  go_ret
  exact⟨v',rfl,⟨by simpa using HO.out,HA.out.ge (by simp) (by simp[Value.ownBlock])⟩,((Kp.refl [] w).alloc _).trans HK.out (by simp[Value.ownBlock])⟩
end Go.Proofs.YtdiljpdohmeceaaGreat.clone
namespace Go.Proofs.YtdiljpdohmeceaaGreat.writer
open Go.RowKit H O
theorem info_u8:(Tryz.prog.info? 5).map (fun i=>(i.zero,i.size,i.bytes))=some (some (.int .u8 0),1,1):=by kernel_rfl
def Wr(w:World)(b:Nat)(g:Option Nat)(xs:List Int):Prop:=
 ∃v,w.heap[b]?=some (.cells #[v] 177 (0,0))/\v.ownBlock=g/\w.ownsRow 0 5 1 v xs.length (iv .u8 xs)/\g≠some b
def WrPost(b:Nat)(g:Option Nat)(xs ys:List Int)(w:World)(e:Ending)(w':World):Prop:=
 e= .returned (.tuple #[])/\∃g',Wr w' b g' (xs++ys)/\At w.heap.size g g'/\Kp (b::g.toList) w w'
theorem Wr.kp{w w1:World}{b:Nat}{g:Option Nat}{xs:List Int}{S:List Nat}(h:Wr w b g xs)(k:Kp S w w1)(hb:b∉S)(hg:∀x,g=some x->x∉S):Wr w1 b g xs:=by
 obtain⟨v,h1,rfl,h3,h4⟩:=h
 exact⟨v,k.blk h1 hb,rfl,k.own h3 hg,h4⟩
theorem Wr.lt{w:World}{b:Nat}{g:Option Nat}{xs:List Int}(h:Wr w b g xs):b<w.heap.size/\∀x,g=some x->x<w.heap.size:=by
 obtain⟨v,h1,rfl,h3,h4⟩:=h
 exact⟨lt_of_block h1,own_lt h3⟩
theorem Wr.new(w:World):Wr (w.alloc (.cells #[.slice none 0 0] 177)) w.heap.size none []:=
 ⟨_,heap_alloc_new w _,rfl,World.ownsRow_nil _ 0 _ 1,by simp⟩
theorem Wr.app{w wa w1:World}{b n m:Nat}{ys news:List Int}{v v1:Value}(hy:ys.length=n)(hb:w.heap[b]?=some (.cells #[v] 177 (0,0)))(hne:v.ownBlock≠some b)(ka:Kp [] w wa)
 (hm:news.length=m) (o1:w1.ownsRow 0 5 1 v1 (n+m) (iv .u8 ys++iv .u8 news)) (k1:Kp v.ownBlock.toList wa w1) (a1:At wa.heap.size v.ownBlock v1.ownBlock):
 w1.cell? ⟨b,0,none⟩=some v/\w1.frozen? ⟨b,0,none⟩=false/\Wr (w1.setCell ⟨b,0,none⟩ v1) b v1.ownBlock (ys++news)/\At w.heap.size v.ownBlock v1.ownBlock/\
  Kp (b::v.ownBlock.toList) w (w1.setCell ⟨b,0,none⟩ v1):=by
 subst hm hy
 have hlt:=lt_of_block hb
 have hs:=ka.size
 have hb1:w1.heap[b]?=some (.cells #[v] 177 (0,0)):=k1.blk (ka.blk hb (by simp)) (by simpa using hne)
 have hne1:v1.ownBlock≠some b:=a1.off (by omega) hne
 refine⟨cell_of_one hb1,free_of_one hb1,⟨v1,one_setCell hb1,rfl, ?_,hne1⟩, ?_, ?_⟩
 ·have:=(((Kp.refl [b] w1).setCell (a:=⟨b,0,none⟩) (.inl (by simp)) v1).own o1 (by intro k hk;rw[hk] at hne1;simpa using hne1))
  simpa [iv] using this
 ·rcases a1 with h|⟨k,h,hk⟩
  ·exact .inl h
  ·exact .inr ⟨k,h,by omega⟩
 ·refine(((ka.mono (T:=b::v.ownBlock.toList) (by simp)).row k1 ?_).setCell ?_ v1)
  ·intro x hx
   exact .inl (by simp[hx])
  ·exact .inl (by simp)
theorem WrPost.of{b:Nat}{g g':Option Nat}{xs ys:List Int}{w w':World}(h1:Wr w' b g' (xs++ys))(h2:At w.heap.size g g')(h3:Kp (b::g.toList) w w'):WrPost b g xs ys w (.returned (.tuple #[])) w':=⟨rfl,g',h1,h2,h3⟩
theorem WrPost.then{b:Nat}{g g1 g2:Option Nat}{xs ys zs:List Int}{w w1 wa w2:World}(A1:At w.heap.size g g1)(K1:Kp (b::g.toList) w w1)(ka:Kp [] w1 wa)(W2:Wr w2 b g2 (xs++ys++zs))(A2:At wa.heap.size g1 g2)
 (K2:Kp (b::g1.toList) wa w2):WrPost b g xs (ys++zs) w (.returned (.tuple #[])) w2:=by
 have hs:=ka.size
 have hs1:=K1.size
 refine⟨rfl,g2,by rw[<-List.append_assoc];exact W2,A1.trans A2 (by omega),(K1.trans ka (by simp)).trans K2 ?_⟩
 intro x hx
 rcases List.mem_cons.1 hx with rfl|hx
 ·exact .inl (by simp)
 ·have hx':g1=some x:=by simpa using hx
  rcases A1 with rfl|⟨j,rfl,hj⟩
  ·exact .inl (by simp[hx'])
  ·exact .inr (by have:=Option.some.inj hx';omega)
theorem raw_any(b:Nat)(g:Option Nat)(xs:List Int)(A:Option Addr)(n c:Nat)(ys:List Int)(w:World)(hW:Wr w b g xs)(hn:ys.length=n)(hr:Rd w A (iv .u8 ys))(hnil:A=none->c=0)
 (hb:xs.length+n<=140737488351232):
 Calls Tryz.prog 126 #[.pointer (some ⟨b,0,none⟩),.slice A n c] w (WrPost b g xs ys w):=by
 obtain⟨v,hb1,rfl,ho,hne⟩:=hW
 have c1:=cell_of_one hb1
 have HB:=As.mk hb1
 have HO:=As.mk ho
 have HR:=As.mk hr
 have HN:=As.mk hnil
 have HE:=As.mk hne
 have HL:=As.mk hn
 clear hb1 ho hr hnil hne hn
 go_enter Tryz.func126,Tryz.ntmps126
 go_wp2_with (at_builtin;refine clone.app8 rfl (.tmp 10) (.tmp 11) rfl v xs.length (iv .u8 xs) rfl HO.out A n c (iv .u8 ys) rfl (by rw[iv_len,HL.out]) HR.out HN.out (iv_one _ _) (by omega) ?_;intro v1 w1 o1 k1 a1;obtain⟨A1,c1',rfl,_⟩:=own_rd o1;obtain⟨c2,f2,W2,A2,K2⟩:=Wr.app rfl HB.out HE.out (Kp.refl [] w) HL.out o1 k1 a1;have R:=As.mk (WrPost.of W2 A2 K2);clear o1 k1 a1 W2 A2 K2)
 go_end0
 exact R.out
theorem out_any(b:Nat)(g:Option Nat)(xs:List Int)(w:World)(hW:Wr w b g xs)(hb:xs.length<=140737488351232):
 Calls Tryz.prog 107 #[.pointer (some ⟨b,0,none⟩)] w (RetOwn 5 .u8 w xs):=by
 obtain⟨v,hb1,rfl,ho,hne⟩:=hW
 obtain⟨A,c,rfl,hle,hmax,hrd,hnil⟩:=own_rd ho
 have c1:=cell_of_one hb1
 have HC:=As.mk (clone.clone_any A xs.length c xs w rfl hrd hnil (by omega))
 clear hb1 ho hne hrd hnil
 go_enter Tryz.func107,Tryz.ntmps107
 go_wp2_with (go_at_call 118;refine HC.out.mono ?_;rintro e w' ⟨v,rfl,ho,hk⟩;have HO:=As.mk ho;have HK:=As.mk hk;clear ho hk)
 go_ret
 exact⟨v,rfl,HO.out,HK.out⟩
theorem min_two(x y:Int)(t ty:TypeId)(w:World):(Builtin.min_ #[t,t] ty #[.int .i64 x,.int .i64 y]).run Tryz.prog w= .ok (.int .i64 (if y<x then y else x)) w:=by
 simp[Builtin.min_,Builtin.min2]
theorem max_two(x y:Int)(t ty:TypeId)(w:World):(Builtin.max_ #[t,t] ty #[.int .i64 x,.int .i64 y]).run Tryz.prog w= .ok (.int .i64 (if y>x then y else x)) w:=by
 simp[Builtin.max_,Builtin.max2]
theorem nums_any(b:Nat)(g:Option Nat)(xs:List Int)(A:Option Addr)(n c:Nat)(vs:List Int)(w:World)(hW:Wr w b g xs)(hn:vs.length=n)(hr:RdS (b::g.toList) w A (iv .i64 vs))
 (hb:xs.length+9*n<=140737488351232):
 Calls Tryz.prog 105 #[.pointer (some ⟨b,0,none⟩),.slice A n c] w (WrPost b g xs (nums vs) w):=by
 subst hn
 have HW:=As.mk hW
 have HR:=As.mk hr
 clear hW hr
 go_enter Tryz.func105,Tryz.ntmps105
 go_wp2
 go_loopw [11] (fun i wr=>∃k:Nat,i= .int .i64 k/\k<=vs.length/\As (WrPost b g xs (nums (vs.take k)) w (.returned (.tuple #[])) wr)) (fun i _=>vs.length-(intOf i).toNat)
 case atStart=>exact⟨0,rfl,by omega,⟨WrPost.of (by simpa [nums] using HW.out) (At.refl _ _) (Kp.refl _ _)⟩⟩
 case round=>
  obtain⟨k,rfl,hk,HP⟩:=hrel
  by_cases hlt:k<vs.length
  ·obtain⟨_,g1,W1,A1,K1⟩:=HP.out
   obtain⟨a,rfl,d1⟩:=(HR.out.kp K1 (fun x hx=> .inl hx)).int k hlt
   obtain⟨x,hx⟩:∃x,x=vs[k]:=⟨_,rfl⟩
   rw[<-hx] at d1
   have HX:=As.mk hx
   clear hx
   obtain⟨u,hu⟩:∃u,u=cl x:=⟨_,rfl⟩
   have hmin:∀w,(Builtin.min_ #[3,3] 3 #[.int .i64 x,.int .i64 4611686018427387904]).run Tryz.prog w= .ok (.int .i64 (min x 4611686018427387904)) w:=fun w=>by rw[min_two];congr 2;omega
   have hmax:∀w,(Builtin.max_ #[3,3] 3 #[.int .i64 0,.int .i64 (min x 4611686018427387904)]).run Tryz.prog w= .ok (.int .i64 (u:Int)) w:=fun w=>by rw[max_two];rw[cl_if,hu]
   have hu2:u<=4611686018427387904:=by subst hu;exact cl_le x
   have HU:=As.mk hu
   clear hu
   have HP:As (WrPost b g xs (nums (vs.take k)) w (.returned (.tuple #[])) wr):=HP
   clear W1 A1 K1
   obtain⟨wo,rfl⟩:∃wo:World,wo=wr:=⟨_,rfl⟩
   go_wp2_with fail
   go_loopw [6] (fun s w2=>∃u2:Nat,s= .int .u64 (u2:Int)/\As (u2<=4611686018427387904)/\As (∃pre,pre++enc u2=num x/\WrPost b g xs (nums (vs.take k)++pre) w (.returned (.tuple #[])) w2)) (fun s _=>(intOf s).toNat)
   case atStart=>exact⟨u,rfl,⟨hu2⟩,⟨[],by rw[HU.out];rfl,by rw[List.append_nil];exact HP.out⟩⟩
   case round=>
    clear d1 hmin hmax hu2
    obtain⟨u2,rfl,HU2,⟨pre,hpre,_,g2,W2,A2,K2⟩⟩:=hrel
    obtain⟨v,hb1,rfl,ho,hne⟩:=W2
    obtain⟨m,hm⟩:∃m,(xs++(nums (vs.take k)++pre)).length=m:=⟨_,rfl⟩
    rw[hm] at ho
    have HM:=As.mk hm
    clear hm
    obtain⟨Av,cv,rfl,_⟩:=own_rd ho
    have c1:=cell_of_one hb1
    have HB:=As.mk hb1
    have HO:=As.mk ho
    have HE:=As.mk hne
    have HA2:=As.mk A2
    have HK2:=As.mk K2
    have HP2:=As.mk hpre
    clear hb1 ho hne A2 K2 hpre
    have HBD:As (m+1<=140737488355328):=by
     constructor
     have h1:=nums_len (vs.take k)
     have h2:=num_len x
     have h3:=enc_pos u2
     have h4:=HM.out
     rw[<-HP2.out] at h2
     simp only[List.length_append,List.length_take] at h1 h2 h4
     omega
    by_cases hge:128<=u2
    ·have hor:=or128 u2
     go_wp2_with (at_builtin;refine clone.app8_one rfl (.tmp 27) (.tmp 31) rfl (.slice Av m cv) _ _ rfl HO.out ((u2:Int)%128+128) rfl HBD.out ?_;intro v1 w1 o1 k1 a1;obtain⟨A1,c1',rfl,_⟩:=own_rd o1;obtain⟨c2,f2,W3,A3,K3⟩:=Wr.app (news:=[(u2:Int)%128+128]) HM.out HB.out HE.out ((Kp.refl [] wr).alloc _) rfl o1 k1 (by simpa using a1);have R:=As.mk (WrPost.then HA2.out HK2.out (Kp.refl _ _) W3 A3 K3);clear o1 k1 a1 W3 A3 K3)
     go_roundw
     case rel=>exact⟨u2/128,by go_num,⟨by have:=HU2.out;omega⟩,⟨pre++[(u2:Int)%128+128],by rw[<-HP2.out,enc_hi (u:=u2) (by omega),List.append_assoc,List.singleton_append],by rw[<-List.append_assoc];exact R.out⟩⟩
     case measure=>simp[intOf];omega
    ·go_wp2_with (at_builtin;refine clone.app8_one rfl (.tmp 39) (.tmp 42) rfl (.slice Av m cv) _ _ rfl HO.out (u2:Int) rfl HBD.out ?_;intro v1 w1 o1 k1 a1;obtain⟨A1,c1',rfl,_⟩:=own_rd o1;obtain⟨c2,f2,W3,A3,K3⟩:=Wr.app (news:=[(u2:Int)]) HM.out HB.out HE.out ((Kp.refl [] wr).alloc _) rfl o1 k1 (by simpa using a1);have R:=As.mk (WrPost.then HA2.out HK2.out (Kp.refl _ _) W3 A3 K3);clear o1 k1 a1 W3 A3 K3)
     go_roundw
     case rel=>exact⟨k+1,by go_num,by omega,⟨by rw[nums_step vs k hlt,<-HX.out,<-HP2.out,enc_lo (u:=u2) (by omega),<-List.append_assoc];exact R.out⟩⟩
     case measure=>simp[intOf];omega
  ·go_wp2
   go_end0
   have:vs.take k=vs:=List.take_of_length_le (by omega)
   rw[this] at HP
   exact HP.out
theorem bytes_any(b:Nat)(g:Option Nat)(xs:List Int)(A:Option Addr)(n c:Nat)(l:List (List Int))(w:World)(hW:Wr w b g xs)(hn:l.length=n)(hr:Rs (b::g.toList) w A l)
 (hb:xs.length+9*n+l.flatten.length<=140737488351232):
 Calls Tryz.prog 106 #[.pointer (some ⟨b,0,none⟩),.slice A n c] w (WrPost b g xs (rows l) w):=by
 subst hn
 have HW:=As.mk hW
 have HR:=As.mk hr
 clear hW hr
 go_enter Tryz.func106,Tryz.ntmps106
 go_wp2
 go_loopw [8] (fun i wr=>∃k:Nat,i= .int .i64 k/\k<=l.length/\As (WrPost b g xs (rows (l.take k)) w (.returned (.tuple #[])) wr)) (fun i _=>l.length-(intOf i).toNat)
 case atStart=>exact⟨0,rfl,by omega,⟨WrPost.of (by simpa [rows] using HW.out) (At.refl _ _) (Kp.refl _ _)⟩⟩
 case round=>
  obtain⟨k,rfl,hk,HP⟩:=hrel
  by_cases hlt:k<l.length
  ·obtain⟨_,g1,W1,A1,K1⟩:=HP.out
   obtain⟨a,Aj,cj,rfl,ha,d0,_,hnil,hrd⟩:=HR.out k hlt
   have d1:=K1.cell d0 (by rw[add_block];exact ha)
   clear d0 ha
   obtain⟨x,hx⟩:∃x,x=l[k]:=⟨_,rfl⟩
   rw[<-hx] at d1 hrd
   have HX:=As.mk hx
   have HRD:=As.mk hrd
   have HNL:=As.mk hnil
   clear hx hrd hnil
   have HBD:As (xs.length+(rows (l.take k)).length+9+x.length<=140737488351232):=by
    constructor
    have h1:=rows_len_take l k hlt
    rw[<-HX.out] at h1
    omega
   have HBD2:As ((xs++(rows (l.take k)++nums [(x.length:Int)])).length+x.length<=140737488351232):=by
    constructor
    have h1:=HBD.out
    have h2:=nums_len [(x.length:Int)]
    simp only[List.length_append,List.length_cons,List.length_nil] at h2⊢
    omega
   have HN:As (Calls Tryz.prog 105 #[.pointer (some ⟨b,0,none⟩),.slice (some ⟨wr.heap.size,0,none⟩) 1 1] (wr.alloc (.cells #[.int .i64 (x.length:Int)] 3)) (WrPost b g1 (xs++rows (l.take k)) (nums [(x.length:Int)]) (wr.alloc (.cells #[.int .i64 (x.length:Int)] 3)))):=by
    constructor
    have hl:=W1.lt
    refine nums_any b g1 _ _ 1 1 [(x.length:Int)] _ (W1.kp ((Kp.refl [] wr).alloc _) (by simp) (by simp)) rfl (RdS.lit wr [.int .i64 (x.length:Int)] _ ?_) (by have:=HBD.out;rw[List.length_append];omega)
    intro y hy
    rcases List.mem_cons.1 hy with rfl|hy
    ·exact hl.1
    ·exact hl.2 y (by simpa using hy)
   have HA1:=As.mk A1
   have HK1:=As.mk K1
   clear W1 A1 K1
   go_wp2_with (first
    |(go_at_call 105;refine HN.out.mono ?_;rintro e w1 ⟨rfl,g2,W2,A2,K2⟩;obtain⟨_,g3,W3,A3,K3⟩:=WrPost.then HA1.out HK1.out ((Kp.refl [] wr).alloc _) W2 A2 K2;have HA3:=As.mk A3;have HK3:=As.mk K3;have HRW:=As.mk (raw_any b g3 _ Aj x.length cj x w1 W3 rfl (HRD.out.kp K3 (fun x hx=> .inl hx)).rd HNL.out HBD2.out);clear W2 A2 K2 W3 A3 K3)
    |(go_at_call 126;refine HRW.out.mono ?_;rintro e w2 ⟨rfl,g4,W4,A4,K4⟩;have HP4:=As.mk (WrPost.then HA3.out HK3.out (Kp.refl [] _) W4 A4 K4);clear W4 A4 K4))
   go_roundw
   case rel=>exact⟨k+1,by go_num,by omega,⟨by rw[rows_step l k hlt,<-HX.out,row,<-nums_one,<-List.append_assoc];exact HP4.out⟩⟩
   case measure=>simp[intOf];omega
  ·go_wp2
   go_end0
   have:l.take k=l:=List.take_of_length_le (by omega)
   rw[this] at HP
   exact HP.out
end Go.Proofs.YtdiljpdohmeceaaGreat.writer
namespace Go.Proofs.YtdiljpdohmeceaaGreat.H
open Go.RowKit
def Vals(w:World)(vs:List Value)(l:List (List Int)):Prop:=
 vs.length=l.length/\∀j (h:j<l.length),∃Aj cj,vs[j]?=some (.slice Aj l[j].length cj)/\l[j].length<=cj/\(Aj=none->cj=0)/\Rd w Aj (iv .u8 l[j])
theorem Vals.rs{w:World}{A:Option Addr}{vs:List Value}{l:List (List Int)}(h:Vals w vs l)(hr:Rd w A vs):Rs [] w A l:=by
 intro j hj
 obtain⟨Aj,cj,hv,h1,h2,h3⟩:=h.2 j hj
 obtain⟨a,rfl,hc⟩:=hr j _ hv
 exact⟨a,Aj,cj,rfl,by simp,hc,h1,h2,RdS.new h3 (Kp.refl _ _) (by simp)⟩
end Go.Proofs.YtdiljpdohmeceaaGreat.H
namespace Go.Proofs.YtdiljpdohmeceaaGreat.O
open Go.RowKit H
def kb(s:ByteArray):List Int:=s.data.toList.map fun b=>(b.toNat:Int)
theorem kb_len(s:ByteArray):(kb s).length=s.size:=by
 rw[kb,List.length_map,Array.length_toList]
 rfl
theorem kb_wf(s:ByteArray):Wf (kb s):=by
 intro x hx
 obtain⟨b,_,rfl⟩:=List.mem_map.1 hx
 have:=b.toNat_lt
 omega
theorem kb_inj{s t:ByteArray}(h:kb s=kb t):s=t:=by
 unfold kb at h
 have h2:s.data.toList=t.data.toList:=(List.map_inj_right (fun a b hab=>UInt8.toNat_inj.1 (by omega))).1 h
 cases s
 cases t
 congr
 exact Array.toList_inj.1 h2
def within1(x:Int):Bool:=decide (0<=x)&&decide (x<=1099511627776)
def opErr(k cl sq:Int)(kn n:Nat):Int:=
 if(k≠1/\k≠2)\/(within1 cl&&within1 sq)=false\/¬(1<=kn/\kn<=64)\/(k=2/\0<n) then 1 else if 4096<n then 5 else 0
def opBytes(k cl sq:Int)(key:ByteArray)(text:List Int):List Int:=nums [k,cl,sq]++rows [kb key,text]
theorem kp_bytes{S:List Nat}{w w1:World}(h:Kp S w w1)(e:TypeId)(s:ByteArray):Kp S w (Lib.bytesWorld w1 e s):=
 h.trans (T:=[]) ⟨rfl,rfl,rfl,by rw[Lib.bytesWorld_size];omega,fun k hk _=>Lib.bytesWorld_at_old w1 e s k hk⟩ (by simp)
theorem rd_bytes(w:World)(e:TypeId)(s:ByteArray):Rd (Lib.bytesWorld w e s) (some ⟨w.heap.size,0,none⟩) (iv .u8 (kb s)):=by
 intro j v hv
 refine⟨_,rfl, ?_⟩
 rw[Addr.add_lit,Nat.zero_add]
 have hj:j<s.size:=by
  have:=(List.getElem?_eq_some_iff.1 hv).1
  rwa[iv_len,kb_len] at this
 rw[Lib.bytesWorld_cell w e s j hj,<-hv]
 have hj2:j<s.data.size:=hj
 have e:s.data[j]?=some s.data[j]:=Array.getElem?_eq_getElem hj2
 simp only[iv,kb,List.getD,List.getElem?_map,Array.getElem?_toList,e,Option.map_some,Option.getD_some]
end Go.Proofs.YtdiljpdohmeceaaGreat.O
namespace Go.Proofs.YtdiljpdohmeceaaGreat.opk
open Go.RowKit H O
theorem within_any(A:Option Addr)(n c:Nat)(xs:List Int)(w:World)(hn:xs.length=n)(h0:Rd w A (iv .i64 xs))(hm:n<=4611686018427387904):
 Calls Tryz.prog 103 #[.slice A n c] w fun e w'=>e= .returned (.bool (xs.all within1))/\w'=w:=by
 subst hn
 have HR:=As.mk h0
 clear h0
 go_enter Tryz.func103,Tryz.ntmps103
 go_wp2
 go_loopw [7] (fun i wr=>∃k:Nat,i= .int .i64 (k:Int)/\k<=xs.length/\As ((xs.take k).all within1=true)/\As (wr=w)) (fun i _=>xs.length-(intOf i).toNat)
 case atStart=>exact⟨0,rfl,by omega,⟨rfl⟩,⟨rfl⟩⟩
 case round=>
  obtain⟨k,rfl,hk,HA,⟨rfl⟩⟩:=hrel
  by_cases hlt:k<xs.length
  ·obtain⟨a,rfl,d0⟩:=HR.out.int k hlt
   have hsplit:xs.all within1=((xs.take k).all within1&&within1 xs[k]&&(xs.drop (k+1)).all within1):=by
    have e:xs=xs.take k++xs[k]::xs.drop (k+1):=by rw[List.getElem_cons_drop,List.take_append_drop]
    conv=>lhs;rw[e]
    rw[List.all_append,List.all_cons,Bool.and_assoc]
   have hstep:(xs.take (k+1)).all within1=((xs.take k).all within1&&within1 xs[k]):=by
    rw[take_succ' xs k hlt,List.all_append]
    simp
   rw[HA.out] at hsplit hstep
   obtain⟨x,hx⟩:∃x,x=xs[k]:=⟨_,rfl⟩
   rw[<-hx] at d0 hsplit hstep
   have HSP:=As.mk hsplit
   have HST:=As.mk hstep
   clear hsplit hstep hx
   by_cases h1:x<0
   ·have hw:within1 x=false:=by unfold within1;rw[decide_eq_false (by omega)];rfl
    have HW:=As.mk hw
    clear hw
    go_wp2
    go_ret
    exact⟨by rw[HSP.out,HW.out];rfl,rfl⟩
   ·by_cases h2:1099511627776<x
    ·have hw:within1 x=false:=by unfold within1;rw[decide_eq_false (show ¬x<=1099511627776 by omega)];simp
     have HW:=As.mk hw
     clear hw
     go_wp2
     go_ret
     exact⟨by rw[HSP.out,HW.out];rfl,rfl⟩
    ·have hw:within1 x=true:=by unfold within1;rw[decide_eq_true (by omega),decide_eq_true (by omega)];rfl
     have HW:=As.mk hw
     clear hw
     go_wp2
     go_roundw
     case rel=>exact⟨k+1,by go_num,by omega,⟨by rw[HST.out,HW.out];rfl⟩,⟨trivial⟩⟩
     case measure=>simp[intOf];omega
  ·have e:xs.take k=xs:=List.take_of_length_le (by omega)
   rw[e] at HA
   clear e
   go_wp2
   go_ret
   exact⟨by rw[HA.out];rfl,rfl⟩
theorem isKey_any(s:ByteArray)(w:World):Calls Tryz.prog 104 #[.string s] w fun e w'=>e= .returned (.bool (decide (1<=s.size/\s.size<=64)))/\w'=w:=by
 obtain⟨n,hn⟩:∃n,s.size=n:=⟨_,rfl⟩
 by_cases h1:1<=n
 ·have h1':(1:Int)<=(n:Int):=by omega
  by_cases h2:n<=64
  ·have h2':(n:Int)<=64:=by omega
   go_enter Tryz.func104,Tryz.ntmps104
   go_wp2
   go_ret
   exact⟨by rw[decide_eq_true (by omega)];rfl,rfl⟩
  ·have h2':¬(n:Int)<=64:=by omega
   go_enter Tryz.func104,Tryz.ntmps104
   go_wp2
   go_ret
   exact⟨rfl,rfl⟩
 ·have h1':¬(1:Int)<=(n:Int):=by omega
  go_enter Tryz.func104,Tryz.ntmps104
  go_wp2
  go_ret
  exact⟨rfl,rfl⟩
end Go.Proofs.YtdiljpdohmeceaaGreat.opk
