/- Words and walks that this claim rests on: proved lemmas alone. -/
import Derived.Test.YtdiljpdohmeceaaGreatZ4
import Derived.Deep.CutRange
set_option maxHeartbeats 16000000
set_option maxRecDepth 100000
namespace Go.Proofs.YtdiljpdohmeceaaGreat.co
open Go.RowKit H O opk frame wir
theorem info_ask:(Tryz.prog.info? 97).map (fun i=>(i.zero,i.size,i.bytes))=some (some (.pointer none),1,8):=by kernel_rfl
theorem BSl.jd{S:List Nat}{w:World}{lo:Nat}{v:Value}{xs:List Int}(h:joins.Jd xs lo w v)(hS:∀x∈S,x<lo)(hm:xs.length<=9223372036854775807):BSl S w v xs:=by
 rcases h with h|⟨g,rfl,h1,h2,h3⟩
 ·exact BSl.own h (fun x hx=> .inl (hS x hx))
 ·refine⟨_,_,rfl,fun j u hu=> ?_,Nat.le_refl _,hm,by simp⟩
  obtain⟨a,ha,hc⟩:=h3 j u hu
  cases ha
  exact⟨_,rfl,fun hm=>by have:=hS _ hm;simp at this;omega,hc⟩
def bSt(cf:Cfg)(s:Cs)(j:Job)(k:Nat):Cs:={s with asks:=mkAsks cf s.ended j 0 s.ctx (pre cf j k),ctx:=s.ctx+(pre cf j k).length}
def BegI(U:List Nat)(L:Lay)(cf:Cfg)(s':Cs)(w:World)(w':World):Prop:=∃L',CoSt U w' L' cf s'/\Grew w L L'/\L'.js=L.js/\Kp L.all w w'
theorem bSt_next{cf:Cfg}{s:Cs}{j:Job}{k:Nat}(h:pre cf j (k+1)=pre cf j k++[k]):bSt cf s j (k+1)={bSt cf s j k with ctx:=(bSt cf s j k).ctx+1,asks:=(bSt cf s j k).asks++[newAsk cf s.ended j 0 ((bSt cf s j k).ctx+1) k]}:=by
 simp only[bSt,h,mkAsks_snoc,List.length_append,List.length_singleton]
 rfl
def askNew(wk:Int)(c1 k:Nat)(dv:Value):Obj:= .cells #[.int .i64 wk,.int .i64 (c1:Int),.int .i64 (k:Int),dv,.slice none 0 0,.int .i64 0,.int .i64 0,.bool false,.bool false] 101
structure BegM(U:List Nat)(cf:Cfg)(s':Cs)(L:Lay)(p0:Nat)(wr:World)(wk:Int)(c1 k:Nat)(dv AV vF:Value)(w4:World):Prop where
 own:wr.ownsRow 0 97 1 AV L.az.length (L.az.map ptr)/\AV.ownBlock=L.ga
 b:L.b<wr.heap.size
 ga:∀x,L.ga=some x->x<wr.heap.size/\x≠L.b/\x≠p0
 pp:p0<wr.heap.size/\p0≠L.b
 cell:wr.cell? ⟨p0,13,none⟩=some AV/\wr.frozen? ⟨p0,13,none⟩=false
 kp:Kp [] ((wr.setCell ⟨L.b,7,none⟩ (.int .i64 (c1:Int))).alloc (askNew wk c1 k dv)) w4
theorem BegM.mid{U:List Nat}{cf:Cfg}{s':Cs}{L:Lay}{p0:Nat}{wr:World}{wk:Int}{c1 k:Nat}{dv AV vF:Value}{w4:World}(h:BegM U cf s' L p0 wr wk c1 k dv AV vF w4):
 w4.cell? ⟨wr.heap.size,4,none⟩=some (.slice none 0 0)/\w4.frozen? ⟨wr.heap.size,4,none⟩=false/\wr.heap.size<w4.heap.size/\w4.cell? ⟨p0,13,none⟩=some AV/\p0≠wr.heap.size/\
  ((w4.setCell ⟨wr.heap.size,4,none⟩ vF).alloc (.cells #[ptr wr.heap.size] 97)).ownsRow 0 97 1 AV L.az.length (L.az.map ptr):=by
 have hs:(wr.setCell ⟨L.b,7,none⟩ (.int .i64 (c1:Int))).heap.size=wr.heap.size:=by simp
 have hq:=heap_alloc_new (wr.setCell ⟨L.b,7,none⟩ (.int .i64 (c1:Int))) (askNew wk c1 k dv)
 rw[hs] at hq
 have hq4:=h.kp.blk hq (by simp)
 have kA:Kp [L.b] wr w4:=((((Kp.refl [L.b] wr).setCell (.inl (by simp)) _).alloc _)).trans h.kp (by simp)
 have kB:Kp [wr.heap.size] w4 ((w4.setCell ⟨wr.heap.size,4,none⟩ vF).alloc (.cells #[ptr wr.heap.size] 97)):=((Kp.refl [wr.heap.size] w4).setCell (.inl (by simp)) _).alloc _
 refine⟨bkc hq4 4 rfl,blk_free hq4 4,lt_of_block hq4,kA.cell h.cell.1 (by simp;exact h.pp.2),by have:=h.pp;omega, ?_⟩
 have hg:=h.own.2
 refine kB.own (kA.own h.own.1 (fun x e=> ?_)) (fun x e=> ?_)
 ·have:=h.ga x (by rw[<-hg];exact e)
  simp;omega
 ·have:=h.ga x (by rw[<-hg];exact e)
  simp;omega
theorem BegM.fin{U:List Nat}{cf:Cfg}{s:Cs}{j:Job}{r:List Job}{L Lk:Lay}{p0:Nat}{ps:List Nat}{w1 wr:World}{wk:Int}{c1 k:Nat}{dv vF v7:Value}{w4 w7:World}{κ:Nat->Nat}{VS VW VJ VD MV AV:Value}{l:List (ByteArray×Int)}
 (h:BegM U cf (bSt cf s j k) Lk p0 wr wk c1 k dv AV vF w4) (hc:CoP U wr Lk cf (bSt cf s j k) κ VS VW VJ VD MV AV l) (hg:Grew w1 L Lk) (hjl:Lk.js=L.js) (hkp:Kp L.all w1 wr) (hj:s.jobs=j::r) (hL:L.js=p0::ps)
 (hpre:pre cf j (k+1)=pre cf j k++[k]) (hc1:c1=(bSt cf s j k).ctx+1) (hF:∀S2,(∀x∈S2,x<=wr.heap.size)->BSl S2 w4 vF (frameOf cf s.ended j c1 k))
 (o7:w7.ownsRow 0 97 1 v7 (Lk.az.length+1) (Lk.az.map ptr++[ptr wr.heap.size])) (k7:Kp AV.ownBlock.toList ((w4.setCell ⟨wr.heap.size,4,none⟩ vF).alloc (.cells #[ptr wr.heap.size] 97)) w7) (a7:At (w4.heap.size+1) AV.ownBlock v7.ownBlock):
 w7.cell? ⟨p0,13,none⟩=some AV/\w7.frozen? ⟨p0,13,none⟩=false/\BegI U L cf (bSt cf s j (k+1)) w1 (w7.setCell ⟨p0,13,none⟩ v7):=by
 have hs:(wr.setCell ⟨Lk.b,7,none⟩ (.int .i64 (c1:Int))).heap.size=wr.heap.size:=by simp
 have hq:=heap_alloc_new (wr.setCell ⟨Lk.b,7,none⟩ (.int .i64 (c1:Int))) (askNew wk c1 k dv)
 rw[hs] at hq
 have hq4:=h.kp.blk hq (by simp)
 have hqs:=lt_of_block hq4
 have hp0:=h.pp
 have hbl:=h.b
 have hL':Lk.js=p0::ps:=hjl.trans hL
 have kA:Kp [Lk.b] wr w4:=((((Kp.refl [Lk.b] wr).setCell (.inl (by simp)) _).alloc _)).trans h.kp (by simp)
 have kB:Kp [wr.heap.size] w4 ((w4.setCell ⟨wr.heap.size,4,none⟩ vF).alloc (.cells #[ptr wr.heap.size] 97)):=((Kp.refl [wr.heap.size] w4).setCell (.inl (by simp)) _).alloc _
 have hgb:∀x,AV.ownBlock=some x->x<wr.heap.size/\x≠Lk.b/\x≠p0:=fun x e=>h.ga x (by rw[<-h.own.2];exact e)
 have nq:wr.heap.size∉AV.ownBlock.toList:=by
  intro e
  have e:AV.ownBlock=some wr.heap.size:=by simpa using e
  have:=(hgb _ e).1
  omega
 have np:p0∉AV.ownBlock.toList:=by
  intro e
  have e:AV.ownBlock=some p0:=by simpa using e
  exact(hgb _ e).2.2 rfl
 have nb:Lk.b∉AV.ownBlock.toList:=by
  intro e
  have e:AV.ownBlock=some Lk.b:=by simpa using e
  exact(hgb _ e).2.1 rfl
 have kC:Kp [p0] w7 (w7.setCell ⟨p0,13,none⟩ v7):=(Kp.refl [p0] w7).setCell (.inl (by simp)) _
 have hb0:(wr.setCell ⟨Lk.b,7,none⟩ (.int .i64 (c1:Int))).heap[Lk.b]?=_:=heap_setCell_same wr Lk.b 7 _ _ (.int .i64 (c1:Int)) hc.hd
 have hb4:=h.kp.blk (blk_alloc hb0 (askNew wk c1 k dv)) (by simp)
 have hb7:=kC.blk (k7.blk (kB.blk hb4 (by simp;omega)) nb) (by simp;omega)
 obtain⟨tv,ev,hp,htv,hev⟩:=hc.ja 0 j p0 (show s.jobs[0]?=some j by rw[hj];rfl) (by rw[hL'];rfl)
 rw[if_pos rfl,if_pos rfl] at hp
 have hp7:=k7.blk (kB.blk (kA.blk hp (by simp;omega)) (by simp;omega)) np
 have hpE:=heap_setCell_same w7 p0 13 _ _ v7 hp7
 have hq5:((w4.setCell ⟨wr.heap.size,4,none⟩ vF).alloc (.cells #[ptr wr.heap.size] 97)).heap[wr.heap.size]?=_:=blk_alloc (heap_setCell_same w4 wr.heap.size 4 _ _ vF hq4) _
 have hqE:=kC.blk (k7.blk hq5 nq) (by simp;omega)
 have kW:Kp (Lk.b::p0::Lk.ga.toList) wr (w7.setCell ⟨p0,13,none⟩ v7):=by
  refine(((kA.mono (T:=Lk.b::p0::Lk.ga.toList) (by simp)).trans kB (by simp)).trans k7 ?_).trans kC (by simp)
  intro x hx
  rw[h.own.2] at hx
  exact .inl (by simp at hx;simp[hx])
 have hat:∀x,v7.ownBlock=some x->(Lk.ga=some x\/wr.heap.size<=x)/\x≠wr.heap.size:=by
  intro x e
  rcases a7 with e2|⟨y,e2,hy⟩
  ·rw[e2] at e
   refine⟨.inl (by rw[<-h.own.2];exact e), ?_⟩
   have:=(hgb x e).1
   omega
  ·rw[e2] at e
   cases e
   exact⟨.inr (by omega),by omega⟩
 have hcl:∀x∈Lk.all++U,x<wr.heap.size:=(CoSt.lt ⟨κ,VS,VW,VJ,VD,MV,AV,l,hc⟩)
 have ho7:(w7.setCell ⟨p0,13,none⟩ v7).ownsRow 0 97 1 v7 (Lk.az.length+1) (Lk.az.map ptr++[ptr wr.heap.size]):=by
  refine kC.own o7 (fun x e hm=> ?_)
  simp only[List.mem_singleton] at hm
  subst hm
  rcases a7 with e2|⟨y,e2,hy⟩
  ·rw[e2] at e
   exact(hgb x e).2.2 rfl
  ·rw[e2] at e
   cases e
   omega
 have hV':∀x∈Lk.b::p0::Lk.ga.toList,x∈Lk.all++U\/wr.heap.size<=x:=by
  intro x hx
  refine .inl (List.mem_append.2 (.inl (Lay.mem.2 ?_)))
  rcases List.mem_cons.1 hx with rfl|hx
  ·simp
  ·rcases List.mem_cons.1 hx with rfl|hx
   ·simp[hL']
   ·have e:Lk.ga=some x:=by simpa using hx
    simp[e]
 have hfin:=hc.addAsk (a:=newAsk cf s.ended j 0 c1 k) (q:=wr.heap.size) (AV1:=v7) (r:=r) (ps:=ps) (p0:=p0) (j:=j) hj hL' kW (by rw[hc1] at hb7;exact hb7)
  (fun S2 hS2=>⟨tv,ev,hpE,htv.kp kW hV' hS2,hev.kp kW hV' hS2⟩)
  (fun S2 hS2=>⟨wk,dv,vF,hqE,by
   have h1:=hF (Lk.all++U++[wr.heap.size]) (fun x hx=>by
    rcases List.mem_append.1 hx with e|e
    ·have:=hcl x e;omega
    ·simp at e;omega)
   have k8:Kp (wr.heap.size::AV.ownBlock.toList++[p0]) w4 (w7.setCell ⟨p0,13,none⟩ v7):=((kB.mono (by simp)).trans k7 (by intro x hx;left;simp at hx⊢;simp[hx])).trans kC (by simp)
   refine h1.kp k8 (fun x hx=> .inl ?_) (fun x hx=> ?_)
   ·simp only[List.cons_append,List.mem_cons,List.mem_append,List.not_mem_nil,or_false] at hx⊢
    rcases hx with e|e|e
    ·exact .inr e
    ·exact .inl (.inl (Lay.mem.2 (by rw[h.own.2] at e;simp at e;simp[e])))
    ·exact .inl (.inl (Lay.mem.2 (by simp[hL',e])))
   ·rcases hS2 x hx with e|e|e
    ·exact .inl (by simp only[List.mem_append] at e⊢;exact .inl e)
    ·exact .inl (by simp[e])
    ·rcases a7 with e2|⟨y,e2,hy⟩
     ·rw[e2,h.own.2] at e
      exact .inl (by simp only[List.mem_append];exact .inl (.inl (Lay.mem.2 (by simp[e]))))
     ·rw[e2] at e
      cases e
      exact .inr (by omega)⟩)
  (Nat.le_refl _) (by have:=lt_of_block hqE;exact this) ho7 hat rfl
 refine⟨bkc hp7 13 rfl,blk_free hp7 13,{Lk with ga:=v7.ownBlock,az:=Lk.az++[wr.heap.size]},⟨_,_,_,_,_,_,_,_,by rw[bSt_next hpre,<-hc1];rw[<-hc1] at hfin;exact hfin⟩,⟨hg.1,fun x hx=> ?_⟩,hjl,hkp.trans kW (fun x hx=> ?_)⟩
 ·have hsz:=hkp.size
  rcases Lay.mem.1 hx with e|e|e|e|e|e|e|e
  ·exact hg.2 x (Lay.mem.2 (.inl e))
  ·exact hg.2 x (Lay.mem.2 (by simp[show x=Lk.gw from e]))
  ·exact hg.2 x (Lay.mem.2 (by simp[show Lk.gj=some x from e]))
  ·exact hg.2 x (Lay.mem.2 (by simp[show Lk.gd=some x from e]))
  ·rcases (hat x e).1 with e2|e2
   ·exact hg.2 x (Lay.mem.2 (by simp[e2]))
   ·exact .inr (by omega)
  ·exact hg.2 x (Lay.mem.2 (by simp[show Lk.gm=some x from e]))
  ·exact hg.2 x (Lay.mem.2 (by simp[show x∈Lk.js from e]))
  ·have e:x∈Lk.az++[wr.heap.size]:=e
   rcases List.mem_append.1 e with e2|e2
   ·exact hg.2 x (Lay.mem.2 (by simp[e2]))
   ·simp at e2
    exact .inr (by omega)
 ·rcases hV' x hx with e|e
  ·rcases List.mem_cons.1 hx with rfl|hx2
   ·exact hg.2 _ (Lay.mem.2 (.inl rfl))
   ·rcases List.mem_cons.1 hx2 with rfl|hx3
    ·exact .inl (Lay.mem.2 (by simp[hL]))
    ·have e:Lk.ga=some x:=by simpa using hx3
     exact hg.2 _ (Lay.mem.2 (by simp[e]))
  ·exact .inr (by have:=hkp.size;omega)
theorem step_app{P:Program}{w:World}{ops:Array Oper}{o:Oper}{a:Act}{K:Act->World->Prop}{Q:Exit->Act->World->Prop}{E:Prop}(hgd:o.guard=none)(s x:Operand)(t:TypeId)
 (ho:o.op= .call {callee:= .builtin .append,args:= #[s,x],argTypes:= #[t,t]}) (e:TypeId) (z:Value) (size bytes:Nat) (ht:P.underlying t=some (.slice e))
 (hI:(P.info? e).map (fun i=>(i.zero,i.size,i.bytes))=some (some z,size,bytes)) (hzs:z.cells.size=size) (hsz:0<size)
 (v:Value) (n:Nat) (xs:List Value) (hs:a.eval s=v) (hown:w.ownsRow 0 e size v n xs)
 (A:Option Addr) (m c:Nat) (news:List Value) (hx:a.eval x= .slice A m c) (hl:news.length=m*size) (hrd:Rd w A news) (hnil:A=none->c=0) (h1:∀u∈news,u.oneCell'=true)
 (hb:(n+m)*bytes<=140737488355328) (hm:n+m<=140737488355328)
 (h:∀v' w',w'.ownsRow 0 e size v' (n+m) (xs++news)->Kp v.ownBlock.toList w w'->At w.heap.size v.ownBlock v'.ownBlock->K (a.put o.dst v') w'):
 if Region.wanted o (yielded ops a.tmps)=true then Oper.wp P o a w K Q else E:=by
 have hw:Region.wanted o (yielded ops a.tmps)=true:=by simp[Region.wanted,hgd]
 rw[if_pos hw]
 obtain⟨v',w',hr,h2,h3,h4,h5⟩:=run_app (P:=P) w t o.type e z size bytes ht hI hzs hsz v n xs hown A m c news hl hrd hnil h1 hb hm
 unfold Oper.wp execOp
 simp only[ho,resolve,invoke,builtin,Sem.run_bind,Sem.run_pure,Result.andThen_ok,List.map_toArray,List.map_cons,List.map_nil,hs,hx,hr]
 exact h v' w' h2 h3 h4
theorem info_msg:(Tryz.prog.info? 44).map (fun i=>(i.zero,i.size,i.bytes))=some (some (.agg #[.int .i64 0,.int .i64 0,.slice none 0 0]),3,40):=by kernel_rfl
theorem info_res:(Tryz.prog.info? 61).map (fun i=>(i.zero,i.size,i.bytes))=some (some (.agg #[.int .i64 0,.int .i64 0,.bool false,.bool false,.slice none 0 0,.slice none 0 0]),6,72):=by kernel_rfl
def MsOk(S:List Nat)(w:World):List Msg->List Value->Prop
 |[],vs=>vs=[]
 |m::l,vs=>∃dv b,vs=[.int .i64 m.frm,.int .i64 m.dst,dv]++b/\BSl S w dv m.data/\MsOk S w l b
theorem MsOk.kp{S S2 V:List Nat}{w w1:World}(k:Kp V w w1)(hV:∀x∈V,x∈S\/w.heap.size<=x)(hS:∀x∈S2,x∈S\/w.heap.size<=x):∀{l:List Msg} {vs:List Value},MsOk S w l vs->MsOk S2 w1 l vs
 |[],_,h=>h
 |_::_,_,⟨a,b,h1,h2,h3⟩=>⟨a,b,h1,h2.kp k hV hS,MsOk.kp k hV hS h3⟩
theorem MsOk.snoc{S:List Nat}{w:World}{m:Msg}{dv:Value}(hr:BSl S w dv m.data):∀{l:List Msg} {vs:List Value},MsOk S w l vs->MsOk S w (l++[m]) (vs++[.int .i64 m.frm,.int .i64 m.dst,dv])
 |[],vs,h=>by
  obtain rfl:vs=[]:=h
  exact⟨dv,[],by simp,hr,rfl⟩
 |_::_,_,⟨p,q,h1,h2,h3⟩=>by
  subst h1
  exact⟨p,q++_,by simp,h2,MsOk.snoc hr h3⟩
def OutI(S:List Nat)(w:World)(v:Value)(ms:List Msg):Prop:=∃vs,w.ownsRow 0 44 3 v ms.length vs/\(∀g,v.ownBlock=some g->g∉S)/\MsOk (v.ownBlock.toList++S) w ms vs
theorem OutI.nil(S:List Nat)(w:World):OutI S w (.slice none 0 0) []:=⟨[],World.ownsRow_nil w 0 _ 3,by simp[Value.ownBlock],rfl⟩
theorem OutI.kp{S S2 V:List Nat}{w w1:World}{v:Value}{ms:List Msg}(h:OutI S w v ms)(k:Kp V w w1)(hV:∀x∈V,x∈S\/w.heap.size<=x)(hS:∀x∈S2,x∈S\/w.heap.size<=x):OutI S2 w1 v ms:=by
 obtain⟨vs,h1,h2,h3⟩:=h
 refine⟨vs,k.own h1 (fun g hg hm=> ?_),fun g hg hm=> ?_,h3.kp k (fun x hx=>(hV x hx).imp (fun e=>List.mem_append.2 (.inr e)) id) (fun x hx=> ?_)⟩
 ·have:=own_lt h1 g hg
  rcases hV g hm with e|e
  ·exact h2 g hg e
  ·omega
 ·have:=own_lt h1 g hg
  rcases hS g hm with e|e
  ·exact h2 g hg e
  ·omega
 ·rcases List.mem_append.1 hx with e|e
  ·exact .inl (List.mem_append.2 (.inl e))
  ·exact(hS x e).imp (fun e=>List.mem_append.2 (.inr e)) id
theorem OutI.snoc{S:List Nat}{w w2:World}{v v2 dv:Value}{ms:List Msg}{vs:List Value}{m:Msg}{n:Nat}(hn:ms.length=n)(hS:∀x∈S,x<w.heap.size)(hv:∀g,v.ownBlock=some g->g∉S)(hm:MsOk (v.ownBlock.toList++S) w ms vs)(hd:BSl (v.ownBlock.toList++S) w dv m.data)
 (o2:w2.ownsRow 0 44 3 v2 (n+1) (vs++[.int .i64 m.frm,.int .i64 m.dst,dv])) (k2:Kp v.ownBlock.toList (w.alloc (.cells #[.int .i64 m.frm,.int .i64 m.dst,dv] 44)) w2) (a2:At (w.heap.size+1) v.ownBlock v2.ownBlock):OutI S w2 v2 (ms++[m]):=by
 have hg:∀g,v2.ownBlock=some g->(v.ownBlock=some g\/w.heap.size<=g)/\g∉S:=by
  intro g e
  rcases a2 with e2|⟨y,e2,hy⟩
  ·rw[e2] at e
   exact⟨.inl e,hv g e⟩
  ·rw[e2] at e
   cases e
   exact⟨.inr (by omega),fun hm=>by have:=hS _ hm;omega⟩
 refine⟨_,by rw[List.length_append,hn];exact o2,fun g e=>(hg g e).2, ?_⟩
 have k1:Kp v.ownBlock.toList w w2:=((Kp.refl v.ownBlock.toList w).alloc _).trans k2 (fun x hx=> .inl hx)
 have hV:∀x∈v.ownBlock.toList,x∈v.ownBlock.toList++S\/w.heap.size<=x:=fun x hx=> .inl (List.mem_append.2 (.inl hx))
 have hS2:∀x∈v2.ownBlock.toList++S,x∈v.ownBlock.toList++S\/w.heap.size<=x:=by
  intro x hx
  rcases List.mem_append.1 hx with e|e
  ·rcases (hg x (by simpa using e)).1 with e2|e2
   ·exact .inl (List.mem_append.2 (.inl (by simp[e2])))
   ·exact .inr e2
  ·exact .inl (List.mem_append.2 (.inr e))
 exact MsOk.snoc (hd.kp k1 hV hS2) (hm.kp k1 hV hS2)
theorem CoP.whom{U:List Nat}{w w1:World}{L:Lay}{cf:Cfg}{s:Cs}{κ:Nat->Nat}{VS VW VJ VD MV AV:Value}{l:List (ByteArray×Int)}(h:CoP U w L cf s κ VS VW VJ VD MV AV l)(sh x cw:Nat)(hVW:VW= .slice (some ⟨L.gw,0,none⟩) s.whom.length cw)(hsh:sh<s.whom.length)(hw1:w1=w.setCell ⟨L.gw,sh,none⟩ (.int .i64 (x:Int))):
 CoP U w1 L cf {s with whom:=s.whom.set sh x} κ VS VW VJ VD MV AV l/\Kp [L.gw] w w1:=by
 subst hw1 hVW
 have k:Kp [L.gw] w (w.setCell ⟨L.gw,sh,none⟩ (.int .i64 (x:Int))):=(Kp.refl _ w).setCell (.inl (by simp)) _
 have hV':∀x∈[L.gw],x∈L.all++U\/w.heap.size<=x:=fun x hx=>by
  simp only[List.mem_singleton] at hx
  subst hx
  exact .inl (List.mem_append.2 (.inl (Lay.mem.2 (by simp))))
 have hS':∀x∈L.all++U,x∈L.all++U\/w.heap.size<=x:=fun x hx=> .inl hx
 have ne:∀x c,κ x=c->c≠2->x∉[L.gw]:=fun x c hx hc hm=>by
  simp only[List.mem_singleton] at hm
  subst hm
  have:=h.sep.gw
  omega
 obtain⟨_,_,ho⟩:=own_store h.wh.1 sh hsh (.int .i64 (x:Int))
 have e:(iv .i64 (s.whom.map fun(n:Nat)=>(n:Int))).set sh (.int .i64 (x:Int))=iv .i64 ((s.whom.set sh x).map fun(n:Nat)=>(n:Int)):=by
  rw[List.map_set,iv,iv,List.map_set]
 rw[e] at ho
 refine⟨⟨h.sep.grow k.size,k.blk h.hd (ne _ _ h.sep.b.1 (by decide)),h.sh.kp k hV' hS',⟨by show World.ownsRow _ 0 _ 1 _ (s.whom.set sh x).length _;rw[List.length_set];exact ho,h.wh.2⟩,
  h.jq.kp k (fun x e=>ne _ _ (h.sep.gj x e).1 (by decide)),h.dn.kp k (fun x e=>ne _ _ (h.sep.gd x e).1 (by decide)) hV' hS',h.jl,
  fun i j q h1 h2=>(h.ja i j q h1 h2).kp k (ne _ _ (h.sep.js q (List.mem_of_getElem? h2)).1 (by decide)) hV' hS',h.al,fun i a p h1 h2=>(h.aa i a p h1 h2).kp k (ne _ _ (h.sep.az p (List.mem_of_getElem? h2)).1 (by decide)) hV' hS',
  ⟨k.own h.aq.1 (fun x e=>ne _ _ (h.sep.ga x (by rw[<-h.aq.2];exact e)).1 (by decide)),h.aq.2⟩,⟨k.own h.mq.1 (fun x e=>ne _ _ (h.sep.gm x (by rw[<-h.mq.2.1];exact e)).1 (by decide)),h.mq.2.1,h.mq.2.2⟩,h.no⟩,k⟩
theorem CoP.ends{U:List Nat}{w w1:World}{L:Lay}{cf:Cfg}{s:Cs}{κ:Nat->Nat}{VS VW VJ VD MV AV VJ1 VD1:Value}{l:List (ByteArray×Int)}(h:CoP U w L cf s κ VS VW VJ VD MV AV l){j:Job}{jr:List Job}{p0:Nat}{ps:List Nat}{r:Res}
 (hj:s.jobs=j::jr) (hjs:L.js=p0::ps) (k:Kp (L.b::p0::(L.gd.toList++L.gm.toList)) w w1)
 (hb:w1.heap[L.b]?=some (.cells #[.int .i64 (cf.id:Int),.int .i64 (cf.pat:Int),.int .i64 (cf.tries:Int),VS,VW,VJ1,.int .i64 (nextJ s:Int),.int .i64 (s.ctx:Int),VD1] 95 (0,0)))
 (hq:Que w1 VJ1 L.gj ps) (hat:∀x,VD1.ownBlock=some x->L.gd=some x\/w.heap.size<=x/\x<w1.heap.size)
 (hd:∀S2,(∀x∈S2,x∈L.b::L.gw::(L.gj.toList++L.js)++U\/VD1.ownBlock=some x)->DoneAt S2 w1 VD1 VD1.ownBlock (s.done++[r])):
 ∃L',CoSt U w1 L' cf (endJob s r)/\Grew w L L'/\L'.js=ps:=by
 have hs:=k.size
 let L':Lay:=⟨L.b,L.gw,L.gj,VD1.ownBlock,none,none,ps,[]⟩
 have hkp:∀x∈L.b::p0::(L.gd.toList++L.gm.toList),(κ x=1\/x=p0\/κ x=4\/κ x=6)/\x∈L.all:=by
  intro x hx
  rcases List.mem_cons.1 hx with rfl|hx
  ·exact⟨.inl h.sep.b.1,Lay.mem.2 (.inl rfl)⟩
  ·rcases List.mem_cons.1 hx with rfl|hx
   ·exact⟨.inr (.inl rfl),Lay.mem.2 (by simp[hjs])⟩
   ·rcases List.mem_append.1 hx with hx|hx
    ·have e:L.gd=some x:=by simpa using hx
     exact⟨.inr (.inr (.inl (h.sep.gd x e).1)),Lay.mem.2 (by simp[e])⟩
    ·have e:L.gm=some x:=by simpa using hx
     exact⟨.inr (.inr (.inr (h.sep.gm x e).1)),Lay.mem.2 (by simp[e])⟩
 have hp7:=h.sep.js p0 (by rw[hjs];simp)
 have hV':∀x∈L.b::p0::(L.gd.toList++L.gm.toList),x∈L.all++U\/w.heap.size<=x:=fun x hx=> .inl (List.mem_append.2 (.inl (hkp x hx).2))
 have hall:∀x∈L'.all,x∈L.b::L.gw::(L.gj.toList++L.js)\/VD1.ownBlock=some x:=by
  intro x hx
  rcases Lay.mem.1 hx with e|e|e|e|e|e|e|e
  ·exact .inl (by simp[show x=L.b from e])
  ·exact .inl (by simp[show x=L.gw from e])
  ·exact .inl (by simp[show L.gj=some x from e])
  ·exact .inr e
  ·cases e
  ·cases e
  ·exact .inl (by simp[hjs,show x∈ps from e])
  ·cases e
 have hsub:∀x∈L.b::L.gw::(L.gj.toList++L.js),x∈L.all:=by
  intro x hx
  simp only[List.mem_cons,List.mem_append,Option.mem_toList] at hx
  rcases hx with e|e|e|e
  ·exact Lay.mem.2 (.inl e)
  ·exact Lay.mem.2 (.inr (.inl e))
  ·exact Lay.mem.2 (by simp[e])
  ·exact Lay.mem.2 (by simp[e])
 have hgr:∀x∈L'.all,x∈L.all\/w.heap.size<=x:=by
  intro x hx
  rcases hall x hx with e|e
  ·exact .inl (hsub x e)
  ·rcases hat x e with e2|e2
   ·exact .inl (Lay.mem.2 (by simp[e2]))
   ·exact .inr e2.1
 have hS':∀x∈L'.all++U,x∈L.all++U\/w.heap.size<=x:=by
  intro x hx
  rcases List.mem_append.1 hx with e|e
  ·exact(hgr x e).imp (fun e=>List.mem_append.2 (.inl e)) id
  ·exact .inl (List.mem_append.2 (.inr e))
 have ne:∀x c,κ x=c->c≠1->(x≠p0/\c≠4/\c≠6)->x∉L.b::p0::(L.gd.toList++L.gm.toList):=fun x c hx c1 c4 hm=>by
  rcases (hkp x hm).1 with e|e|e|e
  ·omega
  ·exact c4.1 e
  ·omega
  ·omega
 have lo:∀x c,κ x=c/\x<w.heap.size->c≠4->(if VD1.ownBlock=some x then 4 else κ x)=c/\x<w1.heap.size:=by
  intro x c hx hc
  rw[if_neg]
  ·exact⟨hx.1,by omega⟩
  ·intro e
   rcases hat x e with e2|e2
   ·have:=h.sep.gd x e2;omega
   ·omega
 have hjn:=h.sep.jn
 rw[hjs] at hjn
 refine⟨L',⟨fun x=>if VD1.ownBlock=some x then 4 else κ x,VS,VW,VJ1,VD1,.slice none 0 0,.slice none 0 0,[],⟨lo _ _ h.sep.b (by decide),lo _ _ h.sep.gw (by decide),fun x e=>lo _ _ (h.sep.gj x e) (by decide),fun x e=> ?_,fun x e=>(by cases e),fun x e=>(by cases e),fun x e=>lo _ _ (h.sep.js x (by rw[hjs];exact List.mem_cons_of_mem _ e)) (by decide),fun x e=>(by cases e),(List.nodup_cons.1 hjn).2,List.nodup_nil,fun x e=>lo _ _ (h.sep.U x e) (by decide)⟩,
  ?_,h.sh.kp k hV' hS',⟨k.own h.wh.1 (fun x e=> ?_),h.wh.2⟩,hq,hd _ (fun x hx=> ?_), ?_,fun i j2 p h1 h2=> ?_,rfl,fun i a p h1 h2=> ?_,⟨World.ownsRow_nil _ 0 _ 1,rfl⟩,⟨World.ownsRow_nil _ 0 _ 2,rfl,by simp[endJob]⟩,fun _=>⟨rfl,rfl⟩⟩,⟨rfl,hgr⟩,rfl⟩
 ·show(if VD1.ownBlock=some x then 4 else κ x)=4/\x<w1.heap.size
  have e':VD1.ownBlock=some x:=e
  rw[if_pos e']
  refine⟨rfl, ?_⟩
  rcases hat x e' with e2|e2
  ·have:=h.sep.gd x e2;omega
  ·exact e2.2
 ·have e:nextJ (endJob s r)=nextJ s:=by simp[nextJ,endJob,hj];omega
  rw[e]
  exact hb
 ·rw[h.wh.2] at e
  cases e
  have:=h.sep.gw
  exact ne _ _ h.sep.gw.1 (by decide) ⟨fun e=>(by rw[e] at this;omega),by decide,by decide⟩
 ·rcases List.mem_append.1 hx with e|e
  ·exact(hall x e).imp (fun e=>List.mem_append.2 (.inl e)) id
  ·exact .inl (List.mem_append.2 (.inr e))
 ·show ps.length=s.jobs.tail.length
  have:=h.jl
  rw[hj,hjs] at this
  rw[hj]
  simpa using this
 ·have h1:s.jobs.tail[i]?=some j2:=h1
  have h2:ps[i]?=some p:=h2
  rw[hj] at h1
  have hh:=h.ja (i+1) j2 p (by rw[hj];exact h1) (by rw[hjs];exact h2)
  rw[if_neg (by omega),if_neg (by omega)] at hh
  have hne:p≠p0:=fun e=>(List.nodup_cons.1 hjn).1 (by rw[<-e];exact List.mem_of_getElem? h2)
  have h3:=hh.kp k (ne _ _ (h.sep.js p (by rw[hjs];exact List.mem_cons_of_mem _ (List.mem_of_getElem? h2))).1 (by decide) ⟨hne,by decide,by decide⟩) hV' hS'
  rw[show s.ended+(i+1)=(endJob s r).ended+i from by show _=s.ended+1+i;omega] at h3
  simpa using h3
 ·cases h2
theorem info_job:(Tryz.prog.info? 88).map (fun i=>(i.zero,i.size,i.bytes))=some (some (.pointer none),1,8):=by kernel_rfl
theorem Que.of_own{w:World}{v:Value}{ps:List Nat}(h:w.ownsRow 0 88 1 v ps.length (ps.map ptr)):Que w v v.ownBlock ps:=by
 rcases h.2 with⟨rfl,h0⟩|⟨g,cap,cur,rfl,_,hg,h1,h2,h3,h4⟩
 ·exact .inl ⟨rfl,rfl,List.eq_nil_of_length_eq_zero h0⟩
 ·refine .inr ⟨g,0,cap,cur,rfl,rfl,hg,h1,by omega,h2,fun i p hi=> ?_⟩
  have hl:=(List.getElem?_eq_some_iff.1 hi).1
  have e:(cur.toList.take (ps.length*1))[i]?=some (ptr p):=by
   rw[h4,List.getElem?_map,hi]
   rfl
  rw[List.getElem?_take,if_pos (by omega)] at e
  simpa using e
theorem run_que{w:World}{v:Value}{g:Option Nat}{ps:List Nat}(hq:Que w v g ps)(ty:TypeId)(x p:Nat)(hx:w.cell? ⟨x,0,none⟩=some (ptr p))(hl:ps.length+1<=1000000):
 ∃v' w' g',(Builtin.append_ #[93,93] ty #[v,.slice (some ⟨x,0,none⟩) 1 1]).run Tryz.prog w= .ok v' w'/\Que w' v' g' (ps++[p])/\Kp g.toList w w'/\At w.heap.size g g'/\v'.ownBlock=g':=by
 have hrd:Rd w (some ⟨x,0,none⟩) [ptr p]:=by
  intro j u hj
  match j,hj with
  |0,hj=>simp at hj;subst hj;exact⟨_,rfl,by rw[add_zero'];exact hx⟩
 obtain⟨i,hi,hz,hs,hby⟩:=info_parts info_job
 rcases hq with⟨rfl,rfl,rfl⟩|⟨b,o,c,cur,rfl,rfl,hb,h1,h2,h3,h4⟩
 ·obtain⟨v',w',hr,h2,h3,h4,h5⟩:=run_app (P:=Tryz.prog) w 93 ty 88 (.pointer none) 1 8 Tryz.underlying93 info_job rfl (by decide) (.slice none 0 0) 0 [] (World.ownsRow_nil w 0 _ 1) (some ⟨x,0,none⟩) 1 1 [ptr p] rfl hrd (by simp) (by simp[ptr,Value.oneCell']) (by omega) (by omega)
  exact⟨v',w',v'.ownBlock,hr,Que.of_own (ps:=[p]) (by simpa using h2),by simpa [Value.ownBlock] using h3,h4,rfl⟩
 ·have hnews:∀(j:Nat) (u:Value),[ptr p][j]?=some u->w.cell? ((⟨x,0,none⟩:Addr).add j)=some u:=by
   intro j u hj
   obtain⟨a,ha,hc⟩:=hrd j u hj
   cases ha
   exact hc
  by_cases hroom:ps.length+1<=c
  ·have hr:=run_append_room_cells (P:=Tryz.prog) w 93 ty 88 i Tryz.underlying93 hi b o ps.length c ⟨x,0,none⟩ 1 1 [ptr p] (by rw[hs];rfl) hnews (by simp[ptr,Value.oneCell']) hroom
    (fun j hj=>by
     have hj0:j=0:=by simp at hj;omega
     subst hj0
     have hlt:o+ps.length*i.size+0<cur.size:=by rw[hs];omega
     rw[bkc hb (o+ps.length*i.size+0) (v:=cur[o+ps.length*i.size+0]) (by simp)]
     rfl)
    (fun j hj=>frozen_of_row w b _ cur _ hb)
   rw[hs,Nat.mul_one] at hr
   refine⟨_,_,some b,hr,.inr ⟨b,o,c,cur.setIfInBounds (o+ps.length) (ptr p),rfl,by rw[List.length_append];rfl,heap_setCell_same w b (o+ps.length) cur _ (ptr p) hb,by rw[List.length_append];simpa using hroom,by simpa using h2,h3,fun j q hj=> ?_⟩,(Kp.refl [b] w).setCell (.inl (by simp)) _,.inl rfl,rfl⟩
   by_cases hjl:j<ps.length
   ·rw[List.getElem?_append_left hjl] at hj
    rw[Array.getElem?_setIfInBounds_ne (by omega)]
    exact h4 j q hj
   ·have hj2:j=ps.length:=by
     have:=(List.getElem?_eq_some_iff.1 hj).1
     rw[List.length_append,List.length_singleton] at this
     omega
    subst hj2
    rw[List.getElem?_append_right (Nat.le_refl _)] at hj
    simp at hj
    subst hj
    rw[Array.getElem?_setIfInBounds_self]
    simp;omega
  ·have hold:∀(j:Nat) (u:Value),(ps.map ptr)[j]?=some u->w.cell? ((⟨b,o,none⟩:Addr).add j)=some u:=by
    intro j u hj
    rw[List.getElem?_map] at hj
    cases e:ps[j]? with
    |none=>rw[e] at hj;cases hj
    |some q=>
     rw[e] at hj
     cases hj
     rw[Go.WideShapes.add_plain]
     exact bkc hb _ (h4 j q e)
   obtain⟨v',w',hr,g1,g2⟩:=run_append_arg_grows (P:=Tryz.prog) w 93 ty 88 i (.pointer none) 1 8 Tryz.underlying93 hi hz hs hby rfl (by decide) ⟨b,o,none⟩ ps.length c (ps.map ptr) (by simp) hold ⟨x,0,none⟩ 1 1 [ptr p] rfl hnews (by omega) (by simp[maxLen];omega) (by omega)
   have g3:w'.ownsRow 0 88 1 v' (ps++[p]).length ((ps++[p]).map ptr):=by
    have:=own_base g1 (base':=0) (fun _ _=>Nat.zero_le _)
    simpa using this
   refine⟨v',w',v'.ownBlock,hr,Que.of_own g3,((Kp.refl [] w).grown g2 (by simp)).mono (by simp), ?_,rfl⟩
   obtain⟨g',cap,rfl,_⟩:=own_form g3 (by simp)
   refine .inr ⟨g',rfl, ?_⟩
   rcases g1.2 with⟨e,_⟩|⟨g'',cap',cur',e,hle,_⟩
   ·simp at e
   ·simp only[Value.slice.injEq,Option.some.injEq,Addr.mk.injEq] at e
    have:=e.1.1
    omega
theorem wpList_que{w:World}{ops:Array Oper}{rest:List Oper}{o:Oper}{a:Act}{Q:Exit->Act->World->Prop}(hgd:o.guard=none)(s x:Operand)
 (ho:o.op= .call {callee:= .builtin .append,args:= #[s,x],argTypes:= #[93,93]})
 (v:Value) (g:Option Nat) (ps:List Nat) (hs:a.eval s=v) (hq:Que w v g ps) (y p:Nat) (hx:a.eval x= .slice (some ⟨y,0,none⟩) 1 1) (hy:w.cell? ⟨y,0,none⟩=some (ptr p)) (hl:ps.length+1<=1000000)
 (h:∀v' w' g',Que w' v' g' (ps++[p])->Kp g.toList w w'->At w.heap.size g g'->v'.ownBlock=g'->wpList Tryz.prog ops Q rest (a.put o.dst v') w'):wpList Tryz.prog ops Q (o::rest) a w:=by
 refine wpList_plain hgd fun K hK=> ?_
 obtain⟨v',w',g',hr,h2,h3,h4,h5⟩:=run_que hq o.type y p hy hl
 unfold Oper.wp execOp
 simp only[ho,resolve,invoke,builtin,Sem.run_bind,Sem.run_pure,Result.andThen_ok,List.map_toArray,List.map_cons,List.map_nil,hs,hx,hr]
 exact hK _ _ (h v' w' g' h2 h3 h4 h5)
theorem CoP.more{U:List Nat}{w w1:World}{L:Lay}{cf:Cfg}{s:Cs}{κ:Nat->Nat}{VS VW VJ VD MV AV VJ1:Value}{l:List (ByteArray×Int)}{p:Nat}(h:CoP (p::U) w L cf s κ VS VW VJ VD MV AV l){j:Job}{g1:Option Nat}(hpu:p∉U)(hno:s.jobs=[]->s.asks=[])
 (k:Kp (L.b::p::L.gj.toList) w w1)
 (hb:w1.heap[L.b]?=some (.cells #[.int .i64 (cf.id:Int),.int .i64 (cf.pat:Int),.int .i64 (cf.tries:Int),VS,VW,VJ1,.int .i64 ((nextJ s+1:Nat):Int),.int .i64 (s.ctx:Int),VD] 95 (0,0)))
 (hq:Que w1 VJ1 g1 (L.js++[p])) (hat:∀x,g1=some x->L.gj=some x\/w.heap.size<=x)
 (hj:∀S2,(∀x∈S2,x∈L.all++(p::U)\/w.heap.size<=x)->JobAt S2 w1 p cf.id (nextJ s) j (.slice none 0 0) (.slice none 0 0)):
 ∃L',CoSt U w1 L' cf (gives s j)/\L'.b=L.b/\(∀x∈L'.all,x∈L.all\/x=p\/w.heap.size<=x):=by
 have hs:=k.size
 have hpU:=h.sep.U p (by simp)
 have hkp:∀x∈L.b::p::L.gj.toList,(κ x=1\/κ x=0\/κ x=3)/\(x∈L.all\/x=p):=by
  intro x hx
  rcases List.mem_cons.1 hx with rfl|hx
  ·exact⟨.inl h.sep.b.1,.inl (Lay.mem.2 (.inl rfl))⟩
  ·rcases List.mem_cons.1 hx with rfl|hx
   ·exact⟨.inr (.inl hpU.1),.inr rfl⟩
   ·have e:L.gj=some x:=by simpa using hx
    exact⟨.inr (.inr (h.sep.gj x e).1),.inl (Lay.mem.2 (by simp[e]))⟩
 have hV':∀x∈L.b::p::L.gj.toList,x∈L.all++(p::U)\/w.heap.size<=x:=by
  intro x hx
  rcases (hkp x hx).2 with e|e
  ·exact .inl (List.mem_append.2 (.inl e))
  ·exact .inl (List.mem_append.2 (.inr (by simp[e])))
 let L':Lay:={L with gj:=g1,js:=L.js++[p]}
 have hgr:∀x∈L'.all,x∈L.all\/x=p\/w.heap.size<=x:=by
  intro x hx
  rcases Lay.mem.1 hx with e|e|e|e|e|e|e|e
  ·exact .inl (Lay.mem.2 (by simp[show x=L.b from e]))
  ·exact .inl (Lay.mem.2 (by simp[show x=L.gw from e]))
  ·rcases hat x e with e2|e2
   ·exact .inl (Lay.mem.2 (by simp[e2]))
   ·exact .inr (.inr e2)
  ·exact .inl (Lay.mem.2 (by simp[show L.gd=some x from e]))
  ·exact .inl (Lay.mem.2 (by simp[show L.ga=some x from e]))
  ·exact .inl (Lay.mem.2 (by simp[show L.gm=some x from e]))
  ·have e:x∈L.js++[p]:=e
   rcases List.mem_append.1 e with e2|e2
   ·exact .inl (Lay.mem.2 (by simp[e2]))
   ·exact .inr (.inl (by simpa using e2))
  ·exact .inl (Lay.mem.2 (by simp[show x∈L.az from e]))
 have hS':∀x∈L'.all++U,x∈L.all++(p::U)\/w.heap.size<=x:=by
  intro x hx
  rcases List.mem_append.1 hx with e|e
  ·rcases hgr x e with e2|e2|e2
   ·exact .inl (List.mem_append.2 (.inl e2))
   ·exact .inl (List.mem_append.2 (.inr (by simp[e2])))
   ·exact .inr e2
  ·exact .inl (List.mem_append.2 (.inr (List.mem_cons_of_mem _ e)))
 have ne:∀x c,κ x=c->c≠0->c≠1->c≠3->x∉L.b::p::L.gj.toList:=fun x c hx c0 c1 c3 hm=>by
  rcases (hkp x hm).1 with e|e|e<;>omega
 have lo:∀x c,κ x=c/\x<w.heap.size->c≠0->c≠3->(if x=p then 7 else if g1=some x then 3 else κ x)=c/\x<w1.heap.size:=by
  intro x c hx c0 c3
  rw[if_neg (fun e=>by rw[e] at hx;omega),if_neg]
  ·exact⟨hx.1,by omega⟩
  ·intro e
   rcases hat x e with e2|e2
   ·have:=h.sep.gj x e2;omega
   ·omega
 have lo0:∀x∈U,(if x=p then 7 else if g1=some x then 3 else κ x)=0/\x<w1.heap.size:=by
  intro x hx
  have h0:=h.sep.U x (List.mem_cons_of_mem _ hx)
  rw[if_neg (fun e=>hpu (by rw[<-e];exact hx)),if_neg]
  ·exact⟨h0.1,by omega⟩
  ·intro e
   rcases hat x e with e2|e2
   ·have:=h.sep.gj x e2;omega
   ·omega
 refine⟨L',⟨fun x=>if x=p then 7 else if g1=some x then 3 else κ x,VS,VW,VJ1,VD,MV,AV,l,⟨lo _ _ h.sep.b (by decide) (by decide),lo _ _ h.sep.gw (by decide) (by decide),fun x e=> ?_,fun x e=>lo _ _ (h.sep.gd x e) (by decide) (by decide),fun x e=>lo _ _ (h.sep.ga x e) (by decide) (by decide),fun x e=>lo _ _ (h.sep.gm x e) (by decide) (by decide),fun x e=> ?_,fun x e=>lo _ _ (h.sep.az x e) (by decide) (by decide), ?_,h.sep.an,lo0⟩,
  ?_,h.sh.kp k hV' hS',⟨k.own h.wh.1 (fun x e=> ?_),h.wh.2⟩,hq,h.dn.kp k (fun x e=>ne _ _ (h.sep.gd x e).1 (by decide) (by decide) (by decide)) hV' hS', ?_,fun i j2 q h1 h2=> ?_,h.al,fun i a q h1 h2=>(h.aa i a q h1 h2).kp k (ne _ _ (h.sep.az q (List.mem_of_getElem? h2)).1 (by decide) (by decide) (by decide)) hV' hS',
  ⟨k.own h.aq.1 (fun x e=>ne _ _ (h.sep.ga x (by rw[<-h.aq.2];exact e)).1 (by decide) (by decide) (by decide)),h.aq.2⟩,⟨k.own h.mq.1 (fun x e=>ne _ _ (h.sep.gm x (by rw[<-h.mq.2.1];exact e)).1 (by decide) (by decide) (by decide)),h.mq.2⟩,h.no⟩,rfl,hgr⟩
 ·have e:g1=some x:=e
  show(if x=p then 7 else if g1=some x then 3 else κ x)=3/\x<w1.heap.size
  rw[if_neg,if_pos e]
  ·exact⟨rfl,hq.lt x e⟩
  ·intro e2
   rcases hat x e with e3|e3
   ·have:=h.sep.gj x e3
    rw[e2] at this
    omega
   ·rw[e2] at e3
    omega
 ·have e:x∈L.js++[p]:=e
  rcases List.mem_append.1 e with e2|e2
  ·exact lo _ _ (h.sep.js x e2) (by decide) (by decide)
  ·have e3:x=p:=by simpa using e2
   show(if x=p then 7 else if g1=some x then 3 else κ x)=7/\x<w1.heap.size
   rw[if_pos e3,e3]
   exact⟨rfl,by omega⟩
 ·show(L.js++[p]).Nodup
  rw[List.nodup_append]
  refine⟨h.sep.jn,by simp,fun x hx y hy=> ?_⟩
  have:=h.sep.js x hx
  simp at hy
  intro e
  rw[e,hy] at this
  omega
 ·have e:nextJ (gives s j)=nextJ s+1:=by simp[nextJ,gives];omega
  rw[e]
  exact hb
 ·rw[h.wh.2] at e
  cases e
  exact ne _ _ h.sep.gw.1 (by decide) (by decide) (by decide)
 ·show(L.js++[p]).length=(s.jobs++[j]).length
  rw[List.length_append,List.length_append,h.jl]
  rfl
 ·have h1:(s.jobs++[j])[i]?=some j2:=h1
  have h2:(L.js++[p])[i]?=some q:=h2
  by_cases hi:i<s.jobs.length
  ·rw[List.getElem?_append_left hi] at h1
   rw[List.getElem?_append_left (by rw[h.jl];exact hi)] at h2
   exact(h.ja i j2 q h1 h2).kp k (ne _ _ (h.sep.js q (List.mem_of_getElem? h2)).1 (by decide) (by decide) (by decide)) hV' hS'
  ·have hi2:i=s.jobs.length:=by
    have:=(List.getElem?_eq_some_iff.1 h1).1
    rw[List.length_append,List.length_singleton] at this
    omega
   subst hi2
   rw[List.getElem?_append_right (Nat.le_refl _)] at h1
   rw[<-h.jl,List.getElem?_append_right (Nat.le_refl _)] at h2
   simp at h1 h2
   subst h1 h2
   have h9:=hj _ hS'
   have e1:(if s.jobs.length=0 then MV else .slice none 0 0)= .slice none 0 0:=by
    split
    ·rename_i h0
     exact(h.no (hno (List.eq_nil_of_length_eq_zero h0))).2
    ·rfl
   have e2:(if s.jobs.length=0 then AV else .slice none 0 0)= .slice none 0 0:=by
    split
    ·rename_i h0
     exact(h.no (hno (List.eq_nil_of_length_eq_zero h0))).1
    ·rfl
   rw[e1,e2]
   exact h9
theorem Que.form2{w:World}{v:Value}{g:Option Nat}{ps:List Nat}(h:Que w v g ps):∃A c,v= .slice A ps.length c:=by
 rcases h with⟨_,rfl,rfl⟩|⟨b,o,c,cur,_,rfl,_⟩
 ·exact⟨none,0,rfl⟩
 ·exact⟨_,c,rfl⟩
def JobNew(w:World)(p:Nat)(j:Job)(tv dv:Value):Prop:=
 w.heap[p]?=some (.cells #[.int .i64 0,.int .i64 0,.bool false,.bool false,.slice none 0 0,.slice none 0 0,.int .i64 (wkind j),.int .i64 (okind j),.int .i64 0,.int .i64 0,.string (okey j),tv,dv,.slice none 0 0] 92 (0,0))
def GivesI(U:List Nat)(L:Lay)(cf:Cfg)(s':Cs)(p:Nat)(w w':World):Prop:=∃L',CoSt U w' L' cf s'/\L'.b=L.b/\(∀x∈L'.all,x∈L.all\/x=p\/w.heap.size<=x)/\Kp (p::L.all) w w'
theorem gives_any(U:List Nat)(w:World)(L:Lay)(cf:Cfg)(s:Cs)(j:Job)(p:Nat)(tv dv:Value)(hC:CoSt (p::U) w L cf s)(hp:JobNew w p j tv dv)(htv:BSl (L.all++(p::U)) w tv (otext j))(hdv:BSl (L.all++(p::U)) w dv (ddat j))(hpu:p∉U)(hno:s.jobs=[]->s.asks=[])(hn:nextJ s<=900000):
 Calls Tryz.prog 28 #[.pointer (some ⟨L.b,0,none⟩),.pointer (some ⟨p,0,none⟩)] w fun e w'=>e= .returned (.tuple #[.int .i64 (nextJ s:Int),.int .i64 0])/\GivesI U L cf (gives s j) p w w':=by
 obtain⟨κ,VS,VW,VJ,VD,MV,AV,l,h⟩:=hC
 obtain⟨n,hn'⟩:∃n,nextJ s=n:=⟨_,rfl⟩
 have hd:=h.hd
 rw[hn'] at hd hn
 have hpb:¬p=L.b:=by
  have h1:=h.sep.U p (by simp)
  have h2:=h.sep.b
  intro e
  rw[e] at h1
  omega
 have hbp:¬L.b=p:=fun e=>hpb e.symm
 have b0:w.cell? ⟨L.b,0,none⟩=some (.int .i64 (cf.id:Int)):=bkc hd 0 rfl
 have b5:w.cell? ⟨L.b,5,none⟩=some VJ:=bkc hd 5 rfl
 have b6:w.cell? ⟨L.b,6,none⟩=some (.int .i64 (n:Int)):=bkc hd 6 rfl
 have fb:=blk_free hd 6
 have fb5:=blk_free hd 5
 have p0:w.cell? ⟨p,0,none⟩=some (.int .i64 0):=bkc hp 0 rfl
 have p8:w.cell? ⟨p,8,none⟩=some (.int .i64 0):=bkc hp 8 rfl
 have p9:w.cell? ⟨p,9,none⟩=some (.int .i64 0):=bkc hp 9 rfl
 have fp0:=blk_free hp 0
 have fp8:=blk_free hp 8
 have fp9:=blk_free hp 9
 have i0:(0:Int)<=(n:Int):=by omega
 have i1:(n:Int)<=900000:=by omega
 have i2:IntKind.i64.wrap ((n:Int)+1)=(n:Int)+1:=by rw[IntKind.wrap_i64];omega
 obtain⟨AJ,cJ,rfl⟩:=h.jq.form2
 obtain⟨nJ,hnJ⟩:∃n,L.js.length=n:=⟨_,rfl⟩
 rw[hnJ] at b5 hd
 have KX:As (∀wX,Kp [p] w wX->wX.cell? ⟨L.b,0,none⟩=some (.int .i64 (cf.id:Int))/\wX.cell? ⟨L.b,6,none⟩=some (.int .i64 (n:Int))):=⟨fun wX kX=>⟨kX.cell b0 (by simpa using hbp),kX.cell b6 (by simpa using hbp)⟩⟩
 have H:=As.mk h
 have HD:=As.mk hd
 have HP:=As.mk hp
 have HT:=As.mk (And.intro htv hdv)
 have HN:=As.mk hn'
 have HNJ:=As.mk hnJ
 have HPU:=As.mk (And.intro hpu hno)
 clear h hd hp htv hdv hn' hnJ hpu hno
 go_enter Tryz.func28,Tryz.ntmps28
 go_upto_region 2 with fail
 go_region_held3 (fun wX=>wX.cell? ⟨L.b,0,none⟩=some (.int .i64 (cf.id:Int))/\wX.cell? ⟨L.b,6,none⟩=some (.int .i64 (n:Int))) (first|exact KX.out _ (((Kp.refl [p] w).setCell (.inl (by simp)) _).drew)|exact KX.out _ (((Kp.refl [p] w).drew).setCell (.inl (by simp)) _)|exact KX.out _ ((((Kp.refl [p] w).setCell (.inl (by simp)) _).setCell (.inl (by simp)) _).drew)|exact KX.out _ (((((Kp.refl [p] w).setCell (.inl (by simp)) _).setCell (.inl (by simp)) _).setCell (.inl (by simp)) _).drew)|go_keep) (fail)
 obtain⟨W2,hW2⟩:∃W,W=(((w.setCell ⟨p,0,none⟩ (.int .i64 (n:Int))).setCell ⟨p,8,none⟩ (.int .i64 (cf.id:Int))).setCell ⟨p,9,none⟩ (.int .i64 ((n:Int)+1))).drew:=⟨_,rfl⟩
 rw[<-hW2]
 have k2:Kp [p] w W2:=by rw[hW2];exact(((((Kp.refl [p] w).setCell (.inl (by simp)) _).setCell (.inl (by simp)) _).setCell (.inl (by simp)) _)).drew
 have hp2:W2.heap[p]?=some (.cells #[.int .i64 (n:Int),.int .i64 0,.bool false,.bool false,.slice none 0 0,.slice none 0 0,.int .i64 (wkind j),.int .i64 (okind j),.int .i64 (cf.id:Int),.int .i64 ((n:Int)+1),.string (okey j),tv,dv,.slice none 0 0] 92 (0,0)):=by
  rw[hW2]
  exact heap_setCell_same _ p 9 _ _ (.int .i64 ((n:Int)+1)) (heap_setCell_same _ p 8 _ _ (.int .i64 (cf.id:Int)) (heap_setCell_same _ p 0 _ _ (.int .i64 (n:Int)) HP.out))
 have hd2:=k2.blk HD.out (by simpa using hbp)
 obtain⟨W3,hW3⟩:∃W,W=W2.setCell ⟨L.b,6,none⟩ (.int .i64 ((n:Int)+1)):=⟨_,rfl⟩
 have k3:Kp [L.b] W2 W3:=by rw[hW3];exact(Kp.refl _ W2).setCell (.inl (by simp)) _
 have hd3:=heap_setCell_same W2 L.b 6 _ _ (.int .i64 ((n:Int)+1)) hd2
 rw[<-hW3] at hd3
 have hp3:=k3.blk hp2 (by simpa using hpb)
 have hs3:W3.heap.size=W2.heap.size:=by rw[hW3];simp
 have hs2:W2.heap.size=w.heap.size:=by rw[hW2];simp[World.drew]
 have k23:Kp (L.b::p::L.gj.toList) w W3:=(k2.mono (by simp)).trans k3 (by simp)
 have hgb:∀x,L.gj=some x->x≠L.b/\x≠p:=fun x e=>by
  have h1:=H.out.sep.gj x e
  have h2:=H.out.sep.b
  have h3:=H.out.sep.U p (by simp)
  exact⟨fun e2=>by rw[e2] at h1;omega,fun e2=>by rw[e2] at h1;omega⟩
 have hq3:Que W3 (.slice AJ nJ cJ) L.gj L.js:=by
  have hq:=H.out.jq
  rw[HNJ.out] at hq
  refine(hq.kp k2 (fun x e hm=> ?_)).kp k3 (fun x e hm=> ?_)
  ·simp at hm;exact(hgb x e).2 hm
  ·simp at hm;exact(hgb x e).1 hm
 have HQ3:As (Que (W3.alloc (.cells #[ptr p] 88)) (.slice AJ nJ cJ) L.gj L.js):=⟨hq3.kp ((Kp.refl [] W3).alloc _) (by simp)⟩
 have hlen:L.js.length+1<=1000000:=by
  have h1:=H.out.jl
  have h2:=HN.out
  unfold nextJ at h2
  omega
 have HFIN:As (∀v7 w7 g7,Que w7 v7 g7 (L.js++[p])->Kp L.gj.toList (W3.alloc (.cells #[ptr p] 88)) w7->At (W3.heap.size+1) L.gj g7->
  w7.cell? ⟨L.b,5,none⟩=some (.slice AJ nJ cJ)/\w7.frozen? ⟨L.b,5,none⟩=false/\w7.cell? ⟨p,0,none⟩=some (.int .i64 (n:Int))/\As (GivesI U L cf (gives s j) p w (w7.setCell ⟨L.b,5,none⟩ v7))):=⟨by
  intro v7 w7 g7 q7 k7 a7
  have nb:L.b∉L.gj.toList:=fun e=>(hgb L.b (by simpa using e)).1 rfl
  have np:p∉L.gj.toList:=fun e=>(hgb p (by simpa using e)).2 rfl
  have hd7:=k7.blk (blk_alloc hd3 _) nb
  have hp7:=k7.blk (blk_alloc hp3 _) np
  have kS:Kp [L.b] w7 (w7.setCell ⟨L.b,5,none⟩ v7):=(Kp.refl _ w7).setCell (.inl (by simp)) _
  have hdS:(w7.setCell ⟨L.b,5,none⟩ v7).heap[L.b]?=_:=heap_setCell_same w7 L.b 5 _ _ v7 hd7
  have hpS:=kS.blk hp7 (by simpa using hpb)
  have kF:Kp (L.b::p::L.gj.toList) w (w7.setCell ⟨L.b,5,none⟩ v7):=((k23.alloc _).trans k7 (fun x hx=> .inl (by simp[hx]))).trans kS (by simp)
  have hat:∀x,g7=some x->L.gj=some x\/w.heap.size<=x:=by
   intro x e
   rcases a7 with e2|⟨y,e2,hy⟩
   ·exact .inl (e2.symm.trans e)
   ·rw[e2] at e
    cases e
    exact .inr (by omega)
  have hbl:=H.out.sep.b
  have hqS:Que (w7.setCell ⟨L.b,5,none⟩ v7) v7 g7 (L.js++[p]):=q7.kp kS (fun x e hm=>by
   simp at hm
   rcases hat x e with e2|e2
   ·exact(hgb x e2).1 hm
   ·omega)
  have hV:∀x∈L.b::p::L.gj.toList,x∈L.all++(p::U)\/w.heap.size<=x:=by
   intro x hx
   refine .inl (List.mem_append.2 ?_)
   rcases List.mem_cons.1 hx with rfl|hx
   ·exact .inl (Lay.mem.2 (by simp))
   ·rcases List.mem_cons.1 hx with rfl|hx
    ·exact .inr (by simp)
    ·exact .inl (Lay.mem.2 (by have:L.gj=some x:=by simpa using hx
                               simp[this]))
  obtain⟨L',q1,q2,q3⟩:=H.out.more (j:=j) HPU.out.1 HPU.out.2 kF (by rw[HN.out];exact hdS) hqS hat (fun S2 hS2=>⟨tv,dv,by rw[HN.out];exact hpS,HT.out.1.kp kF hV hS2,HT.out.2.kp kF hV hS2⟩)
  refine⟨bkc hd7 5 rfl,blk_free hd7 5,bkc hp7 0 rfl,⟨L',q1,q2,q3,kF.mono (fun x hx=> .inl ?_)⟩⟩
  rcases List.mem_cons.1 hx with rfl|hx
  ·exact List.mem_cons_of_mem _ (Lay.mem.2 (by simp))
  ·rcases List.mem_cons.1 hx with rfl|hx
   ·simp
   ·exact List.mem_cons_of_mem _ (Lay.mem.2 (by have:L.gj=some x:=by simpa using hx
                                                simp[this]))⟩
 have c5:W2.cell? ⟨L.b,5,none⟩=some (.slice AJ nJ cJ):=bkc hd2 5 rfl
 have c6:W2.cell? ⟨L.b,6,none⟩=some (.int .i64 (n:Int)):=bkc hd2 6 rfl
 have g5:=blk_free hd2 5
 have g6:=blk_free hd2 6
 have HW3:=As.mk hW3
 have HLIT:As ((W3.alloc (.cells #[ptr p] 88)).cell? ⟨W2.heap.size,0,none⟩=some (ptr p)):=⟨by rw[<-hs3];exact bkc (heap_alloc_new W3 _) 0 rfl⟩
 clear hW2 k2 hp2 hd2 hW3 k3 hd3 hp3 hs3 hs2 k23 hgb hq3 b0 b5 b6 fb fb5 p0 p8 p9 fp0 fp8 fp9
 go_wp2_with (at_builtin;rw[<-HW3.out];refine wpList_que rfl (.tmp 42) (.tmp 44) rfl (.slice AJ nJ cJ) L.gj L.js rfl HQ3.out W2.heap.size p rfl HLIT.out hlen ?_;intro v7 w7 g7 q7 k7 a7 _;obtain⟨A7,c7,rfl⟩:=q7.form2;obtain⟨y0,y1,y2,HZ⟩:=HFIN.out _ w7 g7 q7 k7 (by simpa using a7);clear q7 k7 a7)
 go_ret2
 have h:=HZ.out
 simp only[List.length_append,List.length_singleton] at h
 refine⟨?_,h⟩
 rw[HN.out]
 rfl
def jPut(key:ByteArray)(text:List Int):Job:=⟨1,key,text⟩
def jDel(key:ByteArray):Job:=⟨2,key,[]⟩
def jGet(key:ByteArray):Job:=⟨3,key,[]⟩
def jFind(p:List Int):Job:=⟨4,⟨#[]⟩,p⟩
def jobObj(j:Job)(tv dv:Value):Obj:= .cells #[.int .i64 0,.int .i64 0,.bool false,.bool false,.slice none 0 0,.slice none 0 0,.int .i64 (wkind j),.int .i64 (okind j),.int .i64 0,.int .i64 0,.string (okey j),tv,dv,.slice none 0 0] 92
def NewJ(U:List Nat)(L:Lay)(cf:Cfg)(v er:Int)(s':Cs)(w:World)(e:Ending)(w':World):Prop:=
 e= .returned (.tuple #[.int .i64 v,.int .i64 er])/\∃L',CoSt U w' L' cf s'/\Grew w L L'/\Kp L.all w w'
theorem NewJ.no{U:List Nat}{L:Lay}{cf:Cfg}{s:Cs}{w w':World}(h:CoSt U w L cf s)(k:Kp [] w w')(er:Int):NewJ U L cf 0 er s w (.returned (.tuple #[.int .i64 0,.int .i64 er])) w':=
 ⟨rfl,L,h.kp k (by simp) (fun x hx=> .inl hx),Grew.refl _ _,k.mono (by simp)⟩
theorem gives_new{U:List Nat}{w w1:World}{L:Lay}{cf:Cfg}{s:Cs}(hC:CoSt U w L cf s)(ok:CsOk cf s)(k:Kp [] w w1)(j:Job)(tv dv:Value)(htv:BSl (L.all++U) w1 tv (otext j))(hdv:BSl (L.all++U) w1 dv (ddat j))(hn:nextJ s<=900000):
 Calls Tryz.prog 28 #[.pointer (some ⟨L.b,0,none⟩),.pointer (some ⟨w1.heap.size,0,none⟩)] (w1.alloc (jobObj j tv dv)) (NewJ U L cf (nextJ s) 0 (gives s j) w):=by
 have kA:Kp [] w1 (w1.alloc (jobObj j tv dv)):=(Kp.refl [] w1).alloc _
 have hU:=hC.lt
 have hs:=k.size
 have hC2:CoSt (w1.heap.size::U) (w1.alloc (jobObj j tv dv)) L cf s:=hC.kp (k.trans kA (by simp)) (by simp) (fun x hx=>by
  rcases List.mem_cons.1 hx with rfl|e
  ·exact .inr ⟨hs,by simp⟩
  ·exact .inl e)
 have hS:∀x∈L.all++(w1.heap.size::U),x∈L.all++U\/w1.heap.size<=x:=by
  intro x hx
  simp only[List.mem_append,List.mem_cons] at hx⊢
  rcases hx with e|rfl|e
  ·exact .inl (.inl e)
  ·exact .inr (Nat.le_refl _)
  ·exact .inl (.inr e)
 refine(gives_any U (w1.alloc (jobObj j tv dv)) L cf s j w1.heap.size tv dv hC2 (heap_alloc_new w1 _) (htv.kp kA (by simp) hS) (hdv.kp kA (by simp) hS) (fun e=>by have:=hU _ (List.mem_append.2 (.inr e));omega) ok.none hn).mono ?_
 rintro e w' ⟨rfl,L',q1,q2,q3,q4⟩
 have hsz:(w1.alloc (jobObj j tv dv)).heap.size=w1.heap.size+1:=by simp
 refine⟨rfl,L',q1,⟨q2,fun x hx=> ?_⟩,((k.trans kA (by simp)).mono (by simp)).trans q4 (fun x hx=> ?_)⟩
 ·rcases q3 x hx with e|e|e
  ·exact .inl e
  ·exact .inr (by omega)
  ·exact .inr (by omega)
 ·rcases List.mem_cons.1 hx with e|e
  ·exact .inr (by omega)
  ·exact .inl e
theorem find_any(U:List Nat)(w:World)(L:Lay)(cf:Cfg)(s:Cs)(A:Option Addr)(n c:Nat)(xs:List Int)(hC:CoSt U w L cf s)(ok:CsOk cf s)(hj:nextJ s<=900000)(hn:xs.length=n)(hr:Rd w A (iv .u8 xs))(hnil:A=none->c=0)(h9:n<=1000000):
 Calls Tryz.prog 25 #[.pointer (some ⟨L.b,0,none⟩),.slice A n c] w (if 1<=n/\n<=64 then NewJ U L cf (nextJ s) 0 (gives s (jFind xs)) w else NewJ U L cf 0 10 s w):=by
 have HC:=As.mk hC
 by_cases h:1<=n/\n<=64
 ·rw[if_pos h]
  obtain⟨h1,h2⟩:=h
  have i1:¬(n:Int)<1:=by omega
  have i2:¬(64:Int)<(n:Int):=by omega
  have HCL:As (Calls Tryz.prog 29 #[.slice A n c] w fun e w1=>∃A2 c2,e= .returned (.slice A2 n c2)/\As (Calls Tryz.prog 28 #[.pointer (some ⟨L.b,0,none⟩),.pointer (some ⟨w1.heap.size,0,none⟩)] (w1.alloc (jobObj (jFind xs) (.slice none 0 0) (.slice A2 n c2))) (NewJ U L cf (nextJ s) 0 (gives s (jFind xs)) w))):=⟨by
   refine(cloneb_any A n c xs w hn hr hnil (by omega)).mono ?_
   rintro e w1 ⟨v,rfl,ho,hk⟩
   obtain⟨A2,c2,rfl,_⟩:=own_rd ho.1
   rw[hn] at ho⊢
   have hlt:=hC.lt
   exact⟨A2,c2,rfl,⟨gives_new hC ok hk (jFind xs) _ _ (BSl.nil _ _) (BSl.own ho (fun x hx=> .inl (hlt x hx))) hj⟩⟩⟩
  clear hC ok hj hn hr hnil h9
  go_enter Tryz.func25,Tryz.ntmps25
  go_wp2_with (first
   |(go_at_call 29;refine HCL.out.mono ?_;rintro e w1 ⟨A2,c2,rfl,HG⟩)
   |(go_at_call 28;refine HG.out.mono ?_;rintro e w2 ⟨rfl,HR⟩;have HR:=As.mk HR))
  go_ret2
  exact⟨rfl,HR.out⟩
 ·rw[if_neg h]
  have hd:(n<1)\/(¬n<1/\64<n):=by omega
  clear hC ok hj hn hr hnil h
  go_enter Tryz.func25,Tryz.ntmps25
  rcases hd with h1|⟨h1,h2⟩
  ·have i1:(n:Int)<1:=by omega
   go_wp2
   go_ret2
   exact NewJ.no HC.out (Kp.refl _ _) 10
  ·have i1:¬(n:Int)<1:=by omega
   have i2:(64:Int)<(n:Int):=by omega
   go_wp2
   go_ret2
   exact NewJ.no HC.out (Kp.refl _ _) 10
end Go.Proofs.YtdiljpdohmeceaaGreat.co
