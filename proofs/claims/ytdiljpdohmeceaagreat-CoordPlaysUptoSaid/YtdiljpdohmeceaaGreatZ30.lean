/- Words and walks that this claim rests on: proved lemmas alone. -/
import Derived.Test.YtdiljpdohmeceaaGreatZ29
set_option maxHeartbeats 16000000
set_option maxRecDepth 100000
namespace Go.Proofs.YtdiljpdohmeceaaGreat.co.cr
open Go.RowKit H O opk frame wir
theorem of_any(U:List Nat)(w:World)(L:RLay)(cf:Cfg)(s:Cs)(hC:RsSt U w L cf s)(ok:CsOk cf s)(sh:Nat)(hsh:sh<cf.shards.length)(x:Int):Calls Tryz.prog 125 #[.pointer (some ⟨L.b,0,none⟩),.int .i64 (sh:Int),.int .i64 x] w fun e w'=>e= .returned (.bool (nodeIx cf sh x).isSome)/\w'=w:=by
 have hgr:=ok.cfg.grp _ (List.getElem_mem hsh)
 obtain⟨VSA,Ab,Ao,hW⟩:=hC.wh ok.wlen hsh hgr
 obtain⟨b,o,cS,rfl,s3,sb,cj,sj⟩:=hW.sA
 obtain⟨xs,hxs⟩:∃xs,cf.shards[sh]=xs:=⟨_,rfl⟩
 obtain⟨n,hn⟩:∃n,xs.length=n:=⟨_,rfl⟩
 have h7:=hgr.1.2
 rw[hxs] at hW sj h7
 rw[hn] at sj h7
 obtain⟨ns,hns⟩:∃ns,cf.shards.length=ns:=⟨_,rfl⟩
 rw[hns] at s3 hsh
 have i0:(0:Int)<=(sh:Int):=by omega
 have i1:(sh:Int)<(ns:Int):=by omega
 have HRD:As (∀i (h:i<xs.length),w.cell? ⟨Ab,Ao+i,none⟩=some (.int .i64 xs[i])):=⟨hW.rd⟩
 have HN:=As.mk hn
 have hix:nodeIx cf sh x=xs.findIdx? fun y=>decide (y=x):=by
  have hsh':sh<cf.shards.length:=by omega
  rw[nodeIx,show cf.shards.getD sh []=xs by rw[<-hxs];simp[List.getD,hsh']]
 have HT:As (∀i (h:i<xs.length),xs[i]=x->(nodeIx cf sh x).isSome=true):=⟨fun i h e=>by
  rw[hix,List.findIdx?_isSome,List.any_eq_true]
  exact⟨xs[i],List.getElem_mem h,by simpa using e⟩⟩
 have HF:As ((∀i (h:i<xs.length),xs[i]≠x)->(nodeIx cf sh x).isSome=false):=⟨fun h=>by
  rw[hix,List.findIdx?_isSome,List.any_eq_false]
  intro y hy
  obtain⟨i,hi,rfl⟩:=List.getElem_of_mem hy
  simpa using h i hi⟩
 obtain⟨B,hB⟩:∃B,(nodeIx cf sh x).isSome=B:=⟨_,rfl⟩
 rw[hB] at HT HF⊢
 clear hW hgr hxs hn hns hix hB hC ok hsh sb
 go_enter Tryz.func125,Tryz.ntmps125
 go_wp2_with fail
 go_loop [8] (fun v8=>∃k:Nat,v8= .int .i64 (k:Int)/\k<=n/\As (∀i (h:i<xs.length),i<k->xs[i]≠x)) (fun v=>n-(intOf v).toNat)
 case atStart=>exact⟨0,rfl,by omega,⟨fun i h h0=>by omega⟩⟩
 case round=>
  obtain⟨k,rfl,hk,HI⟩:=hrel
  by_cases hlt:k<n
  ·have hkx:k<xs.length:=by rw[HN.out];exact hlt
   have d0:=HRD.out k hkx
   obtain⟨y,hy⟩:∃y,xs[k]=y:=⟨_,rfl⟩
   rw[hy] at d0
   have i2:(k:Int)<(n:Int):=by omega
   have i3:(0:Int)<=(k:Int):=by omega
   by_cases he:y=x
   ·subst he
    have HB:=As.mk (HT.out k hkx hy)
    clear hy HI
    go_wp2_with fail
    go_ret
    exact⟨by rw[HB.out];rfl,rfl⟩
   ·have HI2:As (∀i (h:i<xs.length),i<k+1->xs[i]≠x):=⟨fun i h h0=>by
     by_cases e:i=k
     ·subst e;rw[hy];exact he
     ·exact HI.out i h (by omega)⟩
    clear hy HI
    go_wp2_with fail
    go_round
    case rel=>exact⟨k+1,by go_num,by omega,HI2⟩
    case measure=>simp[intOf];omega
  ·have HB:=As.mk (HF.out (fun i h=>HI.out i h (by have:=HN.out;omega)))
   have i2:¬(k:Int)<(n:Int):=by omega
   clear HI
   go_wp2_with fail
   go_ret
   exact⟨by rw[HB.out];rfl,rfl⟩
theorem RTick.nothing{U:List Nat}{w w':World}{L:RLay}{cf:Cfg}{s:Cs}(hC:RsSt U w L cf s)(k:Kp [] w w'):RTick U L cf (s,[]) w (.returned (.slice none 0 0)) w':=
 ⟨L,_,rfl,hC.kp k (by simp) (fun x hx=> .inl hx),OutI.nil _ _,RGrew.refl _ _,k.mono (by simp)⟩
theorem RTick.ends{U:List Nat}{w w1 w':World}{L:RLay}{cf:Cfg}{s':Cs}{e:Ending}(k:Kp [] w w1)(h:REnds U L cf s' w1 e w'):RTick U L cf (s',[]) w (.returned (.slice none 0 0)) w':=by
 obtain⟨_,L',h1,h2,h3⟩:=h
 exact⟨L',_,rfl,h1,OutI.nil _ _,⟨h2.1,fun x hx=>(h2.2 x hx).imp id (fun e=>Nat.le_trans k.size e)⟩,(k.mono (by simp)).trans h3 (fun x hx=> .inl hx)⟩
theorem hear_deaf(U:List Nat)(w:World)(L:RLay)(cf:Cfg)(s:Cs)(frm dst:Int)(A:Option Addr)(n c:Nat)(hC:RsSt U w L cf s)(hd:dst≠(cf.id:Int)\/frm<0\/7<=frm):
 Calls Tryz.prog 101 #[.pointer (some ⟨L.b,0,none⟩),.agg #[.int .i64 frm,.int .i64 dst,.slice A n c]] w (RTick U L cf (s,[]) w):=by
 have HCS:=As.mk hC
 obtain⟨W,hW⟩:∃W,W=w.alloc (msgObj frm dst A n c):=⟨_,rfl⟩
 have kW:Kp [] w W:=by rw[hW];exact(Kp.refl [] w).alloc _
 have hb:W.heap[w.heap.size]?=some (msgObj frm dst A n c):=by rw[hW];exact heap_alloc_new w _
 have m0:=bkc hb 0 rfl
 have m1:=bkc hb 1 rfl
 have b0:=kW.cell hC.head.1 (by simp)
 have HK:=As.mk kW
 clear hC kW hb
 by_cases h1:dst=(cf.id:Int)
 ·have e1:(dst !=(cf.id:Int))=false:=by simp[h1]
  by_cases h2:frm<0
  ·clear hd h1
   unfold msgObj at hW
   go_enter Tryz.func101,Tryz.ntmps101
   go_upto_region 1 with fail
   rw[<-hW]
   clear hW
   go_quiet (fail)
   go_wp2_with fail
   go_ret
   exact RTick.nothing HCS.out (HK.out.drewN _)
  ·have e2:decide (frm<0)=false:=decide_eq_false h2
   have h3:7<=frm:=by
    rcases hd with e|e|e
    ·exact absurd h1 e
    ·exact absurd e h2
    ·exact e
   clear hd h1
   unfold msgObj at hW
   go_enter Tryz.func101,Tryz.ntmps101
   go_upto_region 1 with fail
   rw[<-hW]
   clear hW
   go_quiet (fail)
   go_wp2_with fail
   go_ret
   exact RTick.nothing HCS.out (HK.out.drewN _)
 ·have e1:(dst !=(cf.id:Int))=true:=by simpa using h1
  clear hd h1
  unfold msgObj at hW
  go_enter Tryz.func101,Tryz.ntmps101
  go_upto_region 1 with fail
  rw[<-hW]
  clear hW
  go_quiet (fail)
  go_wp2_with fail
  go_ret
  exact RTick.nothing HCS.out (HK.out.drewN _)
def Dis(az:List Ask):Prop:=∀(i1 i2:Nat) (a1 a2:Ask),az[i1]?=some a1->az[i2]?=some a2->a1.ctx=a2.ctx->i1=i2
def Fnd(az:List Ask)(ctx:Int)(ga:Option Nat)(k:Nat)(f:Option Addr):Prop:=
 (f=none/\∀p,p<k->askPr az ctx p=false)\/∃g i,i<k/\ga=some g/\f=some ⟨g,i*11,none⟩/\askPr az ctx i=true
theorem askPr_at{az:List Ask}{ctx:Int}{k:Nat}{a:Ask}(h:az[k]?=some a):askPr az ctx k=(!a.answered&&decide ((a.ctx:Int)=ctx)):=by unfold askPr;rw[h]
theorem Fnd.skip{az:List Ask}{ctx:Int}{ga:Option Nat}{k:Nat}{f:Option Addr}(h:Fnd az ctx ga k f)(hp:askPr az ctx k=false):Fnd az ctx ga (k+1) f:=by
 rcases h with⟨h1,h2⟩|⟨g,i,h1,h2⟩
 ·refine .inl ⟨h1,fun p hk=> ?_⟩
  by_cases e:p=k
  ·rw[e];exact hp
  ·exact h2 p (by omega)
 ·exact .inr ⟨g,i,by omega,h2⟩
theorem Fnd.ix{az:List Ask}{ctx:Int}{ga:Option Nat}{f:Option Addr}(h:Fnd az ctx ga az.length f)(hd:Dis az):(f=none/\askIx az ctx=none)\/∃g i a,ga=some g/\f=some ⟨g,i*11,none⟩/\askIx az ctx=some i/\az[i]?=some a/\a.answered=false/\(a.ctx:Int)=ctx:=by
 cases hx:askIx az ctx with
 |none=>
  rcases h with⟨h1,_⟩|⟨g,i,h1,h2,h3,h4⟩
  ·exact .inl ⟨h1,rfl⟩
  ·exfalso
   have:=askIx_none hx
   rcases this with⟨q,_,_,_,e⟩|⟨e,_⟩
   ·omega
   ·rw[e i h1] at h4
    cases h4
 |some i=>
  obtain⟨a,ha,hn,hc,hI⟩:=askIx_some hx
  have hil:=(List.getElem?_eq_some_iff.1 ha).1
  have hpr:askPr az ctx i=true:=by rw[askPr_at ha,hn];simp[hc]
  rcases h with⟨h1,h2⟩|⟨g,i2,h1,h2,h3,h4⟩
  ·rw[h2 i hil] at hpr
   cases hpr
  ·have hi2:az[i2]?=some az[i2]:=List.getElem?_eq_getElem h1
   rw[askPr_at hi2] at h4
   simp only[Bool.and_eq_true,Bool.not_eq_true',decide_eq_true_eq] at h4
   have e:=hd i2 i _ _ hi2 ha (by have:=h4.2;omega)
   subst e
   exact .inr ⟨g,i2,a,h2,h3,rfl,ha,hn,hc⟩
theorem RsSt.hint{U:List Nat}{w w4:World}{L:RLay}{cf:Cfg}{s:Cs}(h:RsSt U w4 L cf s)(ok:CsOk cf s){i ga:Nat}{a:Ask}(ha:s.asks[i]?=some a)(hga:L.ga=some ga){at_:Nat}{hint:Int}(hat:nodeIx cf a.shard hint=some at_)(k:Kp [] ((w4.setCell ⟨ga,i*11+5,none⟩ (.bool true)).setCell ⟨L.gw,a.shard,none⟩ (.int .i64 hint)) w):
 RsSt U w L cf {s with whom:=s.whom.set a.shard at_,asks:=s.asks.set i {a with hinted:=true}}/\Kp [ga,L.gw] w4 w:=by
 have aok:=ok.asks a (List.mem_of_getElem? ha)
 have hgr:=ok.cfg.grp _ (List.getElem_mem aok.shard)
 obtain⟨g2,hA⟩:=h.ask ha
 obtain rfl:g2=ga:=by have:=hA.hga;rw[hga] at this;exact(Option.some.inj this).symm
 have h1:=hA.hint true
 obtain⟨_,_,_,hW⟩:=h1.wh (sh:=a.shard) ok.wlen aok.shard hgr
 have h2:=hW.set at_
 have e:dest cf (s.whom.set a.shard at_) a.shard=hint:=by
  obtain⟨e1,e2⟩:=nodeIx_some hat
  rw[dest_set (by have:=ok.wlen;have:=aok.shard;omega),if_pos rfl]
  rcases e2 with⟨q,q1,q2,_,q4⟩|⟨_,q4⟩
  ·have:at_=q:=by omega
   subst this
   exact(of_decide_eq_true q2).symm
  ·omega
 have h2:RsSt U ((w4.setCell ⟨g2,i*11+5,none⟩ (.bool true)).setCell ⟨L.gw,a.shard,none⟩ (.int .i64 (dest cf (s.whom.set a.shard at_) a.shard))) L cf {s with whom:=s.whom.set a.shard at_,asks:=s.asks.set i {a with hinted:=true}}:=h2
 rw[e] at h2
 exact⟨h2.kp k (by simp) (fun x hx=> .inl hx),(((Kp.refl _ w4).setCell (.inl (by simp)) _).setCell (.inl (by simp)) _).trans k (by simp)⟩
end Go.Proofs.YtdiljpdohmeceaaGreat.co.cr
