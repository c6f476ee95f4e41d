/- Words and walks that this claim rests on: proved lemmas alone. -/
import Derived.Test.YtdiljpdohmeceaaGreatZ6
import Derived.Test.YtdiljpdohmeceaaGreatZ7
set_option maxHeartbeats 16000000
set_option maxRecDepth 100000
namespace Go.Proofs.YtdiljpdohmeceaaGreat.co
open Go.RowKit H O opk frame wir
theorem newAsk_ok{cf:Cfg}{num:Nat}{j:Job}{t ctx c2 sh:Nat}(hj:JobOk j)(hc:1<=ctx/\ctx<=c2)(hs:sh<cf.shards.length)(ht:t<=cf.tries):AskOk cf c2 (newAsk cf num j t ctx sh):=by
 have h1:=jdata_len (cf:=cf) (num:=num) hj
 have h2:=pay_len 113 [wkind j,(ctx:Int),(sh:Int)] (jdata cf num j) (by simp)
 have h3:=frame_len (p:=pay 113 [wkind j,(ctx:Int),(sh:Int)] (jdata cf num j)) (by omega)
 exact⟨hs,hc,⟨by show(fEnc _).length<=10000;omega,fEnc_wf (pay_wf (by decide) h1.2)⟩,ht,Nat.zero_le _⟩
theorem jshards_lt{cf:Cfg}{j:Job}(h:0<cf.shards.length):∀x∈jshards cf j,x<cf.shards.length:=by
 intro x hx
 unfold jshards at hx
 split at hx
 ·simpa using hx
 ·have:x=shardOf (kb j.key) cf.shards.length:=by simpa using hx
  rw[this]
  exact shardOf_lt _ h
theorem jshards_len{cf:Cfg}{j:Job}(h:1<=cf.shards.length):1<=(jshards cf j).length/\(jshards cf j).length<=cf.shards.length:=by
 unfold jshards
 split
 ·simp;omega
 ·simp;omega
theorem mkAsks_ok{cf:Cfg}{num:Nat}{j:Job}{t ctx:Nat}(hj:JobOk j)(hl:0<cf.shards.length)(ht:t<=cf.tries):∀a∈mkAsks cf num j t ctx (jshards cf j),AskOk cf (ctx+(jshards cf j).length) a:=by
 intro a ha
 obtain⟨i,hi,rfl⟩:=List.mem_iff_getElem.1 ha
 rw[mkAsks_len] at hi
 have h1:=mkAsks_get cf num j t ctx (jshards cf j) i hi
 have h2:=(List.getElem?_eq_some_iff.1 h1).2
 rw[h2]
 exact newAsk_ok hj ⟨by omega,by omega⟩ (jshards_lt hl _ (List.getElem_mem hi)) ht
theorem CsOk.asksTo{cf:Cfg}{s:Cs}(h:CsOk cf s){ctx:Nat}{A:List Ask}(hA:∀a∈A,AskOk cf ctx a)(h8:A.length<=8)(hn:s.jobs≠[]):CsOk cf {s with ctx:=ctx,asks:=A}:=
 ⟨h.cfg,h.wlen,h.whom,h.jobs,hA,fun e=>absurd e hn,h8⟩
def mix(A1 A0:List Ask)(k:Nat):List Ask:=A1.take k++A0.drop k
theorem mix_zero(A1 A0:List Ask):mix A1 A0 0=A0:=by simp[mix]
theorem mix_all{A1 A0:List Ask}(h:A1.length=A0.length):mix A1 A0 A1.length=A1:=by rw[mix,List.take_length,List.drop_of_length_le (by omega),List.append_nil]
theorem mix_get{A1 A0:List Ask}{k:Nat}{a:Ask}(h:A1.length=A0.length)(ha:A0[k]?=some a):(mix A1 A0 k)[k]?=some a:=by
 have hk:=(List.getElem?_eq_some_iff.1 ha).1
 rw[mix,List.getElem?_append_right (by simp;omega),List.length_take,Nat.min_eq_left (by omega),List.getElem?_drop]
 simpa using ha
theorem mix_set{A1 A0:List Ask}{k:Nat}{a:Ask}(h:A1.length=A0.length)(ha:A1[k]?=some a):(mix A1 A0 k).set k a=mix A1 A0 (k+1):=by
 obtain⟨hk,hv⟩:=List.getElem?_eq_some_iff.1 ha
 rw[mix,List.set_append_right _ _ (by rw[List.length_take];omega),List.length_take,Nat.min_eq_left (by omega),Nat.sub_self,mix,List.take_succ_eq_append_getElem hk,hv,List.append_assoc]
 congr 1
 rw[List.drop_eq_getElem_cons (by omega)]
 rfl
theorem mix_len{A1 A0:List Ask}(h:A1.length=A0.length)(k:Nat):(mix A1 A0 k).length=A0.length:=by
 rw[mix,List.length_append,List.length_take,List.length_drop]
 omega
theorem mix_mem{A1 A0:List Ask}{k:Nat}{a:Ask}(h:a∈mix A1 A0 k):a∈A1\/a∈A0:=by
 rcases List.mem_append.1 h with h|h
 ·exact .inl (List.mem_of_mem_take h)
 ·exact .inr (List.mem_of_mem_drop h)
theorem tick_none{cf:Cfg}{s:Cs}(h:s.jobs=[]):tick cf s=(s,[]):=by simp only[tick,h]
theorem tick_new{cf:Cfg}{s:Cs}{j:Job}{r:List Job}(h:s.jobs=j::r)(ha:s.asks=[]):
 tick cf s=({s with asks:=mkAsks cf s.ended j 1 s.ctx (jshards cf j),ctx:=s.ctx+(jshards cf j).length},(mkAsks cf s.ended j 1 s.ctx (jshards cf j)).map (msgOf cf s.whom)):=by
 simp only[tick,h,ha,if_true]
theorem tick_go{cf:Cfg}{s:Cs}{j:Job}{r:List Job}(h:s.jobs=j::r)(ha:s.asks≠[]){wh:List Nat}{az:List Ask}{out:List Msg}(hg:tkGo cf s.asks.length 0 s.whom s.asks []=(wh,az,out,false)):
 tick cf s=({s with whom:=wh,asks:=az},out):=by
 simp only[tick,h,if_neg ha,hg]
theorem tick_end{cf:Cfg}{s:Cs}{j:Job}{r:List Job}(h:s.jobs=j::r)(ha:s.asks≠[]){wh:List Nat}{az:List Ask}{out:List Msg}(hg:tkGo cf s.asks.length 0 s.whom s.asks []=(wh,az,out,true)):
 tick cf s=(endErr {s with whom:=wh,asks:=az} 14,out):=by
 simp only[tick,h,if_neg ha,hg]
theorem nextW_len(cf:Cfg)(wh:List Nat)(s:Nat):(nextW cf wh s).length=wh.length:=by simp[nextW]
theorem CsOk.next{cf:Cfg}{s:Cs}(h:CsOk cf s){sh:Nat}(hs:sh<cf.shards.length):CsOk cf {s with whom:=nextW cf s.whom sh}:=by
 refine⟨h.cfg,by show(nextW _ _ _).length=_;rw[nextW_len];exact h.wlen,fun i h1 h2=> ?_,h.jobs,h.asks,h.none,h.few⟩
 have h1':i<(s.whom.set sh ((s.whom.getD sh 0+1)%(cf.shards.getD sh []).length)).length:=h1
 show(s.whom.set sh ((s.whom.getD sh 0+1)%(cf.shards.getD sh []).length))[i]'h1'<_
 rw[List.getElem_set]
 split
 ·rename_i e
  subst e
  rw[show cf.shards.getD sh []=cf.shards[sh] from by simp[List.getD,hs]]
  exact Nat.mod_lt _ (by have:=(h.cfg.grp _ (List.getElem_mem hs)).1;omega)
 ·exact h.whom i (by rw[nextW_len] at h1;exact h1) h2
def TickPost(U:List Nat)(L:Lay)(cf:Cfg)(r:Cs×List Msg)(w:World)(e:Ending)(w':World):Prop:=
 ∃L' v,e= .returned v/\CoSt U w' L' cf r.1/\OutI (L'.all++U) w' v r.2/\Grew w L L'/\Kp L.all w w'
theorem CoSt.askPtr{U:List Nat}{w:World}{L:Lay}{cf:Cfg}{s:Cs}(h:CoSt U w L cf s){ga k p:Nat}(hg:L.ga=some ga)(hp:L.az[k]?=some p):w.cell? ⟨ga,k,none⟩=some (ptr p):=by
 obtain⟨κ,VS,VW,VJ,VD,MV,AV,l,h⟩:=h
 have hk:=(List.getElem?_eq_some_iff.1 hp).1
 obtain⟨g,c,rfl,_⟩:=own_form h.aq.1 (by omega)
 have e:=h.aq.2
 rw[hg] at e
 obtain rfl:g=ga:=by simpa [Value.ownBlock] using e
 rw[h.aq.1.cellAt k (by omega)]
 simp[hp]
theorem Que.form{w:World}{v:Value}{g:Option Nat}{ps:List Nat}(h:Que w v g ps):∃A c,v= .slice A ps.length c:=by
 rcases h with⟨_,rfl,rfl⟩|⟨b,o,c,cur,_,rfl,_⟩
 ·exact⟨none,0,rfl⟩
 ·exact⟨_,c,rfl⟩
theorem tick_no(U:List Nat)(w:World)(L:Lay)(cf:Cfg)(s:Cs)(hC:CoSt U w L cf s)(hj:s.jobs=[]):Calls Tryz.prog 11 #[.pointer (some ⟨L.b,0,none⟩)] w (TickPost U L cf (tick cf s) w):=by
 have HC:=As.mk hC
 obtain⟨κ,VS,VW,VJ,VD,MV,AV,l,h⟩:=hC
 obtain⟨A,c,hv⟩:=h.jq.form
 have hl:L.js.length=0:=by rw[h.jl,hj];rfl
 rw[hl] at hv
 subst hv
 have b5:w.cell? ⟨L.b,5,none⟩=some (.slice A 0 c):=bkc h.hd 5 rfl
 have HJ:=As.mk hj
 clear h hl hj
 go_enter Tryz.func11,Tryz.ntmps11
 go_wp2
 go_ret
 rw[tick_none HJ.out]
 exact⟨L,_,rfl,HC.out,OutI.nil _ _,Grew.refl _ _,Kp.refl _ _⟩
theorem tick_begin(U:List Nat)(w:World)(L:Lay)(cf:Cfg)(s:Cs)(j:Job)(r:List Job)(hC:CoSt U w L cf s)(ok:CsOk cf s)(hj:s.jobs=j::r)(ha:s.asks=[])(hc:s.ctx+8<=1099511627776)(he:s.ended+1<=1099511627776):
 Calls Tryz.prog 11 #[.pointer (some ⟨L.b,0,none⟩)] w (TickPost U L cf (tick cf s) w):=by
 have hC0:=hC
 obtain⟨κ,VS,VW,VJ,VD,MV,AV,l,h⟩:=hC
 have hjl:=h.jl
 rw[hj] at hjl
 obtain⟨p0,ps,hjs⟩:∃p ps,L.js=p::ps:=by
  cases e:L.js with
  |nil=>rw[e] at hjl;simp at hjl
  |cons p ps=>exact⟨p,ps,rfl⟩
 obtain⟨qb,qo,qc,rfl,q0⟩:=h.jq.cell (i:=0) (p:=p0) (by rw[hjs];rfl)
 obtain⟨m,hm⟩:∃m,L.js.length=m+1:=⟨ps.length,by rw[hjs];rfl⟩
 have hd:=h.hd
 rw[hm] at hd
 have b5:w.cell? ⟨L.b,5,none⟩=some (.slice (some ⟨qb,qo,none⟩) (m+1) qc):=bkc hd 5 rfl
 rw[Nat.add_zero] at q0
 unfold ptr at q0
 obtain⟨tv,dv,hp,_,_⟩:=h.ja 0 j p0 (by rw[hj];rfl) (by rw[hjs];rfl)
 rw[if_pos rfl,if_pos rfl] at hp
 have p13:w.cell? ⟨p0,13,none⟩=some (.slice none 0 0):=by rw[<-(h.no ha).1];exact bkc hp 13 rfl
 have hcl:=ok.cfg.len
 have jok:=ok.jobs j (by rw[hj];simp)
 obtain⟨n,hn⟩:∃n,(jshards cf j).length=n:=⟨_,rfl⟩
 have hn8:=jshards_len (cf:=cf) (j:=j) hcl.1
 rw[hn] at hn8
 obtain⟨A0,hA0⟩:∃A,mkAsks cf s.ended j 0 s.ctx (jshards cf j)=A:=⟨_,rfl⟩
 obtain⟨A1,hA1⟩:∃A,mkAsks cf s.ended j 1 s.ctx (jshards cf j)=A:=⟨_,rfl⟩
 have hl0:A0.length=n:=by rw[<-hA0,mkAsks_len,hn]
 have hl1:A1.length=n:=by rw[<-hA1,mkAsks_len,hn]
 have HTK:=As.mk (tick_new (cf:=cf) hj ha)
 rw[hn,hA1] at HTK
 have HBG:As (Calls Tryz.prog 30 #[.pointer (some ⟨L.b,0,none⟩),.pointer (some ⟨p0,0,none⟩)] w fun e w1=>e= .returned (.tuple #[])/\∃(ga cA:Nat),w1.cell? ⟨p0,13,none⟩=some (.slice (some ⟨ga,0,none⟩) n cA)/\
  As (∃L',L'.ga=some ga/\L'.b=L.b/\CoSt U w1 L' cf {s with asks:=mix A1 A0 0,ctx:=s.ctx+n}/\Grew w L L'/\L'.js=L.js/\Kp L.all w w1)):=⟨by
  refine(begins_any U w L cf s j r p0 ps hC0 ok hj hjs ha hc he).mono ?_
  rintro e w1 ⟨rfl,L',hc',hg,hjs',hk⟩
  rw[hn,hA0] at hc'
  obtain⟨κ',VS',VW',VJ',VD',MV',AV',l',h'⟩:=id hc'
  have hal:=h'.al
  have hal:L'.az.length=n:=by rw[hal];exact hl0
  have ho:=h'.aq.1
  rw[hal] at ho
  obtain⟨g,cA,rfl,_⟩:=own_form ho (by omega)
  have e2:=h'.aq.2
  obtain⟨tv',dv',hp',_,_⟩:=h'.ja 0 j p0 (show s.jobs[0]?=some j by rw[hj];rfl) (by rw[hjs',hjs];rfl)
  rw[if_pos rfl,if_pos rfl] at hp'
  refine⟨rfl,g,cA,bkc hp' 13 rfl,⟨L', ?_,hg.1,by rw[mix_zero];exact hc',hg,hjs',hk⟩⟩
  simpa [Value.ownBlock] using e2.symm⟩
 have HOK:As (∀k,CsOk cf {s with asks:=mix A1 A0 k,ctx:=s.ctx+n}):=⟨fun k=>by
  refine ok.asksTo (fun a ha2=> ?_) (by rw[mix_len (by omega)];omega) (by rw[hj];simp)
  have ht:=ok.cfg.tries
  rcases mix_mem ha2 with e|e
  ·rw[<-hA1] at e
   rw[<-hn]
   exact mkAsks_ok jok (by omega) (by omega) a e
  ·rw[<-hA0] at e
   rw[<-hn]
   exact mkAsks_ok jok (by omega) (by omega) a e⟩
 have HGET:As (∀k,k<n->∃a0,A0[k]?=some a0/\A1[k]?=some {a0 with waited:=0,tried:=a0.tried+1,hinted:=false}/\a0.tried<cf.tries):=⟨fun k hk=>by
  have hk':k<(jshards cf j).length:=by omega
  have ht:=ok.cfg.tries
  refine⟨newAsk cf s.ended j 0 (s.ctx+k+1) (jshards cf j)[k],by rw[<-hA0];exact mkAsks_get ..,by rw[<-hA1];exact mkAsks_get ..,by show 0<cf.tries;omega⟩⟩
 have HL:=As.mk (And.intro hl0 hl1)
 have hn9:n<=8:=by omega
 clear h hd hp hm hjl hC0 ok hj ha hc he hcl jok hn hA0 hA1 hl0 hl1
 go_enter Tryz.func11,Tryz.ntmps11
 go_wp2_with (go_at_call 30;refine HBG.out.mono ?_;rintro e w1 ⟨rfl,ga,cA,c13,HB1⟩;clear HBG)
 go_loopw [4,39] (fun v i wr=>∃(k:Nat) (L':Lay),i= .int .i64 (k:Int)/\k<=n/\As (L'.ga=some ga/\L'.b=L.b/\Grew w L L'/\Kp L.all w wr/\∀g,v.ownBlock=some g->w.heap.size<=g)/\As (CoSt (v.ownBlock.toList++U) wr L' cf {s with asks:=mix A1 A0 k,ctx:=s.ctx+n})/\As (OutI (L'.all++U) wr v ((A1.take k).map (msgOf cf s.whom)))) (fun _ i _=>n-(intOf i).toNat)
 case atStart=>
  obtain⟨L',h1,h2,h3,h4,h5,h6⟩:=HB1.out
  exact⟨0,L',rfl,by omega,⟨h1,h2,h4,h6,by simp[Value.ownBlock]⟩,⟨by simpa [Value.ownBlock] using h3⟩,⟨OutI.nil _ _⟩⟩
 case round=>
  obtain⟨k,L',rfl,hk,HG,HS,HO⟩:=hrel
  by_cases hlt:k<n
  ·obtain⟨a0,ha0,ha1,hlt3⟩:=HGET.out k hlt
   have hl0:=HL.out.1
   have hl1:=HL.out.2
   obtain⟨p,hp⟩:∃p,L'.az[k]?=some p:=by
    obtain⟨κ',VS',VW',VJ',VD',MV',AV',l',h'⟩:=HS.out
    have h1:=h'.al
    have h1:L'.az.length=(mix A1 A0 k).length:=h1
    rw[mix_len (by omega)] at h1
    exact⟨_,List.getElem?_eq_getElem (by omega)⟩
   have c0:=HS.out.askPtr HG.out.1 hp
   unfold ptr at c0
   have HTR:=tried_any (u4.ownBlock.toList++U) wr L' cf {s with asks:=mix A1 A0 k,ctx:=s.ctx+n} k p a0 HS.out (HOK.out k) hp (mix_get (by omega) ha0) hlt3
   rw[HG.out.2.1] at HTR
   have HTR:=As.mk HTR
   obtain⟨vs,ho,hv,hms⟩:=HO.out
   rw[List.length_map,List.length_take,Nat.min_eq_left (by omega)] at ho
   have hlt4:=HS.out.lt
   obtain⟨fl,hfl⟩:∃m,a0.frame.length=m:=⟨_,rfl⟩
   obtain⟨dd,hdd⟩:∃m,dest cf s.whom a0.shard=m:=⟨_,rfl⟩
   have HTR2:As (Calls Tryz.prog 31 #[.pointer (some ⟨L.b,0,none⟩),.pointer (some ⟨p,0,none⟩)] wr fun e w2=>∃A2 c2,e= .returned (.agg #[.int .i64 (cf.id:Int),.int .i64 dd,.slice A2 fl c2])/\
    As ((w2.alloc (.cells #[.int .i64 (cf.id:Int),.int .i64 dd,.slice A2 fl c2] 44)).ownsRow 0 44 3 u4 k vs)/\
    As (∀v3 w3,w3.ownsRow 0 44 3 v3 (k+1) (vs++[.int .i64 (cf.id:Int),.int .i64 dd,.slice A2 fl c2])->Kp u4.ownBlock.toList (w2.alloc (.cells #[.int .i64 (cf.id:Int),.int .i64 dd,.slice A2 fl c2] 44)) w3->At (w2.heap.size+1) u4.ownBlock v3.ownBlock->
     As (L'.ga=some ga/\L'.b=L.b/\Grew w L L'/\Kp L.all w w3/\∀g,v3.ownBlock=some g->w.heap.size<=g)/\As (CoSt (v3.ownBlock.toList++U) w3 L' cf {s with asks:=mix A1 A0 (k+1),ctx:=s.ctx+n})/\As (OutI (L'.all++U) w3 v3 ((A1.take (k+1)).map (msgOf cf s.whom))))):=⟨by
    refine HTR.out.mono ?_
    rintro e w2 ⟨dv,rfl,hd,hc,hk2⟩
    obtain⟨A2,c2,rfl,hd2⟩:=id hd
    have hpm:p∈L'.all:=Lay.mem.2 (by simp[List.mem_of_getElem? hp])
    have hV:∀x∈[p],x∈L'.all++U\/wr.heap.size<=x:=fun x hx=>by
     simp only[List.mem_singleton] at hx
     subst hx
     exact .inl (List.mem_append.2 (.inl hpm))
    have hu:∀g,u4.ownBlock=some g->g∉[p]:=fun g e hm=>by
     simp only[List.mem_singleton] at hm
     subst hm
     exact hv _ e (List.mem_append.2 (.inl hpm))
    have ho2:=hk2.own ho hu
    have hfd:dest cf ({s with asks:=mix A1 A0 k,ctx:=s.ctx+n}:Cs).whom a0.shard=dd:=hdd
    rw[hfd,hfl]
    refine⟨A2,c2,rfl,⟨ho2.alloc _⟩,⟨fun v3 w3 o3 k3 a3=> ?_⟩⟩
    have hs2:=hk2.size
    have hs0:=HG.out.2.2.2.1.size
    have hu0:=HG.out.2.2.2.2
    have k13:Kp u4.ownBlock.toList w2 w3:=((Kp.refl u4.ownBlock.toList w2).alloc _).trans k3 (fun x hx=> .inl hx)
    have hu3:∀g,v3.ownBlock=some g->u4.ownBlock=some g\/w2.heap.size<=g/\g<w3.heap.size:=by
     intro g e
     have h9:=own_lt o3 g e
     rcases a3 with e2|⟨y,e2,hy⟩
     ·rw[e2] at e;exact .inl e
     ·rw[e2] at e;cases e;exact .inr ⟨by omega,h9⟩
    have hlt5:∀x∈L'.all++U,x<w2.heap.size:=fun x hx=>by
     have:=hlt4 x (by simp only[List.mem_append] at hx⊢;rcases hx with e|e;exact .inl e;exact .inr (.inr e))
     omega
    refine⟨⟨HG.out.1,HG.out.2.1,HG.out.2.2.1,(HG.out.2.2.2.1.trans hk2 (fun x hx=> ?_)).trans k13 (fun x hx=> .inr (hu0 x (by simpa using hx))),fun g e=> ?_⟩,⟨?_⟩,⟨?_⟩⟩
    ·simp only[List.mem_singleton] at hx
     subst hx
     exact HG.out.2.2.1.2 _ hpm
    ·rcases hu3 g e with e2|e2
     ·exact hu0 g e2
     ·omega
    ·have h9:=hc.kp (U2:=v3.ownBlock.toList++U) k13 (fun x hx=> .inl (List.mem_append.2 (.inl hx))) (fun x hx=>by
      rcases List.mem_append.1 hx with e|e
      ·rcases hu3 x (by simpa using e) with e2|e2
       ·exact .inl (List.mem_append.2 (.inl (by simp[e2])))
       ·exact .inr e2
      ·exact .inl (List.mem_append.2 (.inr e)))
     rw[<-mix_set (by omega) ha1]
     exact h9
    ·have e1:(A1.take (k+1)).map (msgOf cf s.whom)=(A1.take k).map (msgOf cf s.whom)++[⟨cf.id,dd,a0.frame⟩]:=by
      obtain⟨hk1,hv1⟩:=List.getElem?_eq_some_iff.1 ha1
      rw[List.take_succ_eq_append_getElem hk1,List.map_append,List.map_singleton,hv1,<-hdd]
      rfl
     rw[e1]
     refine OutI.snoc (m:=⟨cf.id,dd,a0.frame⟩) (by rw[List.length_map,List.length_take,Nat.min_eq_left (by omega)]) hlt5 hv (hms.kp hk2 (fun x hx=>(hV x hx).imp (fun e=> ?_) id) (fun x hx=> .inl hx)) ?_ o3 k3 a3
     ·simp only[List.mem_append] at e⊢
      rcases e with e|e
      ·exact .inr (.inl e)
      ·exact .inr (.inr e)
     ·have hd':=hd
      simp only[hfl] at hd'
      refine hd'.kp (Kp.refl [] w2) (by simp) (fun x hx=> .inl ?_)
      simp only[List.mem_append] at hx⊢
      rcases hx with e|e|e
      ·exact .inr (.inl e)
      ·exact .inl e
      ·exact .inr (.inr e)⟩
   clear HTR ho hms hlt4 hfl hdd
   have i0:(0:Int)<=(k:Int):=by omega
   have i1:(k:Int)<(n:Int):=by omega
   clear ha0 ha1 hl0 hl1 hp
   go_wp2_with (first
    |(go_at_call 31;refine HTR2.out.mono ?_;rintro e w2 ⟨A2,c2,rfl,HOW,HFI⟩)
    |(at_builtin;refine wpList_app rfl (.tmp 43) (.tmp 47) 31 rfl 44 (.agg #[.int .i64 0,.int .i64 0,.slice none 0 0]) 3 40 Tryz.underlying31 info_msg rfl (by decide) u4 k vs rfl HOW.out (some ⟨w2.heap.size,0,none⟩) 1 1 [.int .i64 (cf.id:Int),.int .i64 dd,.slice A2 fl c2] rfl rfl (rd_new w2 _ _) (by simp) (by simp[Value.oneCell']) (by omega) (by omega) ?_;intro v3 w3 o3 k3 a3 _;obtain⟨H1,H2,H3⟩:=HFI.out v3 w3 o3 k3 (by simpa using a3);clear o3 k3 a3))
   go_roundw
   case rel=>exact⟨k+1,L',by go_num,by omega,H1,H2,H3⟩
   case measure=>simp[intOf];omega
  ·obtain rfl:k=n:=by omega
   go_wp2
   go_ret
   have hl0:=HL.out.1
   have hl1:=HL.out.2
   rw[HTK.out]
   have hs:=HS.out
   have e1:mix A1 A0 k=A1:=by rw[<-hl1];exact mix_all (by omega)
   have e2:A1.take k=A1:=List.take_of_length_le (by omega)
   rw[e1] at hs
   rw[e2] at HO
   exact⟨L',_,rfl,hs.kp (Kp.refl [] wr) (by simp) (fun x hx=> .inl (List.mem_append.2 (.inr hx))),HO.out,HG.out.2.2.1,HG.out.2.2.2.1⟩
def Wt(cf:Cfg)(az:List Ask):Prop:=∀a∈az,a.waited<cf.pat
theorem Wt.set{cf:Cfg}{az:List Ask}(h:Wt cf az)(k:Nat){a:Ask}(ha:a.waited<cf.pat):Wt cf (az.set k a):=by
 intro x hx
 rcases List.mem_or_eq_of_mem_set hx with e|e
 ·exact h x e
 ·rw[e];exact ha
theorem tkGo_step(cf:Cfg)(f k:Nat)(wh:List Nat)(az:List Ask)(out:List Msg)(a:Ask)(h:az[k]?=some a):tkGo cf (f+1) k wh az out=
 if a.answered=true then tkGo cf f (k+1) wh az out
 else if a.waited+1<cf.pat then tkGo cf f (k+1) wh (az.set k {a with waited:=a.waited+1}) out
 else if cf.tries<=a.tried then(wh,az.set k {a with waited:=a.waited+1},out,true)
 else tkGo cf f (k+1) (nextW cf wh a.shard) (az.set k {a with waited:=0,tried:=a.tried+1,hinted:=false}) (out++[msgOf cf (nextW cf wh a.shard) a]):=by
 rw[tkGo,h]
theorem AskAt.set5{S:List Nat}{w:World}{p:Nat}{a:Ask}(h:AskAt S w p a)(hp:p∈S)(n:Nat):AskAt S (w.setCell ⟨p,5,none⟩ (.int .i64 (n:Int))) p {a with waited:=n}:=by
 obtain⟨kd,dv,fv,h1,h2⟩:=h
 have k:Kp [p] w (w.setCell ⟨p,5,none⟩ (.int .i64 (n:Int))):=(Kp.refl _ w).setCell (.inl (by simp)) _
 exact⟨kd,dv,fv,heap_setCell_same w p 5 _ _ _ h1,h2.kp k (by intro x hx;simp at hx;subst hx;exact .inl hp) (fun x hx=> .inl hx)⟩
theorem AskAt.set7{S:List Nat}{w:World}{p:Nat}{a:Ask}(h:AskAt S w p a)(hp:p∈S)(b:Bool):AskAt S (w.setCell ⟨p,7,none⟩ (.bool b)) p {a with hinted:=b}:=by
 obtain⟨kd,dv,fv,h1,h2⟩:=h
 have k:Kp [p] w (w.setCell ⟨p,7,none⟩ (.bool b)):=(Kp.refl _ w).setCell (.inl (by simp)) _
 exact⟨kd,dv,fv,heap_setCell_same w p 7 _ _ _ h1,h2.kp k (by intro x hx;simp at hx;subst hx;exact .inl hp) (fun x hx=> .inl hx)⟩
theorem AskAt.cells{S:List Nat}{w:World}{p:Nat}{a:Ask}(h:AskAt S w p a):p<w.heap.size/\w.cell? ⟨p,1,none⟩=some (.int .i64 (a.ctx:Int))/\w.cell? ⟨p,2,none⟩=some (.int .i64 (a.shard:Int))/\w.cell? ⟨p,5,none⟩=some (.int .i64 (a.waited:Int))/\w.cell? ⟨p,6,none⟩=some (.int .i64 (a.tried:Int))/\w.cell? ⟨p,7,none⟩=some (.bool a.hinted)/\w.cell? ⟨p,8,none⟩=some (.bool a.answered)/\
 ∀j,w.frozen? ⟨p,j,none⟩=false:=by
 obtain⟨kd,dv,fv,h1,h2⟩:=h
 exact⟨lt_of_block h1,bkc h1 1 rfl,bkc h1 2 rfl,bkc h1 5 rfl,bkc h1 6 rfl,bkc h1 7 rfl,bkc h1 8 rfl,blk_free h1⟩
theorem CoSt.askAt{U:List Nat}{w:World}{L:Lay}{cf:Cfg}{s:Cs}(h:CoSt U w L cf s){k p:Nat}{a:Ask}(hp:L.az[k]?=some p)(ha:s.asks[k]?=some a):AskAt (L.all++U) w p a:=by
 obtain⟨κ,VS,VW,VJ,VD,MV,AV,l,h⟩:=h
 exact h.aa k a p ha hp
theorem CoSt.askSet{U:List Nat}{w w1:World}{L:Lay}{cf:Cfg}{s:Cs}(h:CoSt U w L cf s){k p:Nat}{a a':Ask}(hp:L.az[k]?=some p)(ha:s.asks[k]?=some a)(hk:Kp [p] w w1)(hn:AskAt (L.all++U) w1 p a')(hms:a'.ms=a.ms):CoSt U w1 L cf {s with asks:=s.asks.set k a'}:=by
 obtain⟨κ,VS,VW,VJ,VD,MV,AV,l,h⟩:=h
 exact⟨_,_,_,_,_,_,_,_,h.ask hp ha hk hn hms⟩
theorem CoSt.azp{U:List Nat}{w:World}{L:Lay}{cf:Cfg}{s:Cs}(h:CoSt U w L cf s){k:Nat}(hk:k<s.asks.length):∃p,L.az[k]?=some p/\p∈L.all:=by
 obtain⟨κ,VS,VW,VJ,VD,MV,AV,l,h⟩:=h
 have h1:=h.al
 have hl:k<L.az.length:=by omega
 exact⟨_,List.getElem?_eq_getElem hl,Lay.mem.2 (by simp[List.getElem_mem hl])⟩
theorem CoSt.drewN{U:List Nat}{w:World}{L:Lay}{cf:Cfg}{s:Cs}(h:CoSt U w L cf s)(q:Nat):CoSt U (w.drewN q) L cf s:=h.kp ((Kp.refl [] w).drewN q) (by simp) (fun x hx=> .inl hx)
structure TkI(U:List Nat)(L:Lay)(cf:Cfg)(s:Cs)(w:World)(n k:Nat)(wh:List Nat)(az:List Ask)(ms:List Msg)(v:Value)(wr:World):Prop where
 ok:CsOk cf {s with whom:=wh,asks:=az}
 wt:Wt cf az
 len:az.length=n
 st:CoSt (v.ownBlock.toList++U) wr L cf {s with whom:=wh,asks:=az}
 out:OutI (L.all++U) wr v ms
 kp:Kp L.all w wr
 own:∀g,v.ownBlock=some g->w.heap.size<=g
 few:ms.length<=k
 go:tkGo cf (n-k) k wh az ms=tkGo cf n 0 s.whom s.asks []
theorem TkI.wait{U:List Nat}{L:Lay}{cf:Cfg}{s:Cs}{w:World}{n k:Nat}{wh:List Nat}{az:List Ask}{ms:List Msg}{v:Value}{wr:World}(h:TkI U L cf s w n k wh az ms v wr){p:Nat}{a:Ask}(hpk:L.az[k]?=some p)(hpm:p∈L.all)(haz:az[k]?=some a){wX:World}
 (kX:Kp [] (wr.setCell ⟨p,5,none⟩ (.int .i64 ((a.waited:Int)+1))) wX):
 CoSt (v.ownBlock.toList++U) wX L cf {s with whom:=wh,asks:=az.set k {a with waited:=a.waited+1}}/\OutI (L.all++U) wX v ms/\Kp L.all w wX/\CsOk cf {s with whom:=wh,asks:=az.set k {a with waited:=a.waited+1}}/\Kp [p] wr wX:=by
 have k1:Kp [p] wr (wr.setCell ⟨p,5,none⟩ (.int .i64 ((a.waited:Int)+1))):=(Kp.refl _ wr).setCell (.inl (by simp)) _
 have hA:=h.st.askAt hpk haz
 have hA5:=hA.set5 (List.mem_append.2 (.inl hpm)) (a.waited+1)
 have hwt:=h.wt a (List.mem_of_getElem? haz)
 have aok:=h.ok.asks a (List.mem_of_getElem? haz)
 have hpat:=h.ok.cfg.pat
 have k2:=k1.trans kX (by simp)
 refine⟨(h.st.askSet hpk haz k1 hA5 rfl).kp kX (by simp) (fun x hx=> .inl hx),h.out.kp k2 (fun x hx=> ?_) (fun x hx=> .inl hx),h.kp.trans k2 (fun x hx=> ?_),h.ok.ask k ⟨aok.shard,aok.ctx,aok.frame,aok.tried,by show a.waited+1<=1001;omega⟩,k2⟩
 ·simp only[List.mem_singleton] at hx
  subst hx
  exact .inl (List.mem_append.2 (.inl hpm))
 ·simp only[List.mem_singleton] at hx
  subst hx
  exact .inl hpm
theorem TkI.ends{U:List Nat}{L:Lay}{cf:Cfg}{s:Cs}{w:World}{n k:Nat}{wh:List Nat}{az:List Ask}{ms:List Msg}{v:Value}{wr:World}(h:TkI U L cf s w n k wh az ms v wr){p:Nat}{a:Ask}(hpk:L.az[k]?=some p)(hpm:p∈L.all)(haz:az[k]?=some a){wX:World}
 (kX:Kp [] (wr.setCell ⟨p,5,none⟩ (.int .i64 ((a.waited:Int)+1))) wX) {j:Job} {r:List Job} {p0:Nat} {ps:List Nat} (hj:s.jobs=j::r) (hjs:L.js=p0::ps) (hd9:s.done.length<=1000000):
 Calls Tryz.prog 32 #[.pointer (some ⟨L.b,0,none⟩),.int .i64 14] wX fun en w'=>en= .returned (.tuple #[])/\
  As (∃L',CoSt U w' L' cf (endErr {s with whom:=wh,asks:=az.set k {a with waited:=a.waited+1}} 14)/\OutI (L'.all++U) w' v ms/\Grew w L L'/\Kp L.all w w'):=by
 obtain⟨g1,g2,g3,g4,g5⟩:=h.wait hpk hpm haz kX
 obtain⟨κ,VS,VW,VJ,VD,MV,AV,l,hp⟩:=g1
 obtain⟨tv,dv,hb,_,_⟩:=hp.ja 0 j p0 (show s.jobs[0]?=some j by rw[hj];rfl) (by rw[hjs];rfl)
 rw[if_pos rfl,if_pos rfl] at hb
 have hms:MSl (L.b::L.gw::(L.gj.toList++L.js)++(v.ownBlock.toList++U)++L.gd.toList) wX MV l:=by
  refine MSl.own hp.mq.1 (fun g e hm=> ?_)
  rw[hp.mq.2.1] at e
  have h6:=hp.sep.gm g e
  simp only[List.mem_append,List.mem_cons,Option.mem_toList] at hm
  rcases hm with((e|e|e|e)|e|e)|e
  ·have:=hp.sep.b;rw[e] at h6;omega
  ·have:=hp.sep.gw;rw[e] at h6;omega
  ·have:=hp.sep.gj g e;omega
  ·have:=hp.sep.js g e;omega
  ·have:=hp.sep.U g (List.mem_append.2 (.inl (by simp[e])));omega
  ·have:=hp.sep.U g (List.mem_append.2 (.inr e));omega
  ·have:=hp.sep.gd g e;omega
 refine(ends_any (v.ownBlock.toList++U) wX wX L cf _ κ VS VW VJ VD MV AV l j r p0 ps hp hj hjs (Kp.refl _ _) false false (.slice none 0 0) MV _ _ _ _ _ _ _ _ [] l 14 hb (BSl.nil _ _) hms hd9).mono ?_
 rintro en w' ⟨rfl,L',q1,q2,q3,q4⟩
 have e0:resOf s.ended 14 false false [] l=⟨s.ended,14,false,false,[],[]⟩:=rfl
 rw[e0] at q1
 refine⟨rfl,⟨L',q1.kp (Kp.refl [] w') (by simp) (fun x hx=> .inl (List.mem_append.2 (.inr hx))),g2.kp q4 (fun x hx=> .inl (List.mem_append.2 (.inl hx))) (fun x hx=> ?_),⟨q2.1,fun x hx=>(q2.2 x hx).imp id (fun e=>by have:=g3.size;omega)⟩,g3.trans q4 (fun x hx=> .inl hx)⟩⟩
 rcases List.mem_append.1 hx with e|e
 ·exact(q2.2 x e).imp (fun e=>List.mem_append.2 (.inl e)) id
 ·exact .inl (List.mem_append.2 (.inr e))
theorem TkI.resend{U:List Nat}{L:Lay}{cf:Cfg}{s:Cs}{w:World}{n k:Nat}{wh:List Nat}{az:List Ask}{ms:List Msg}{v:Value}{wr:World}(h:TkI U L cf s w n k wh az ms v wr){p:Nat}{a:Ask}(hpk:L.az[k]?=some p)(hpm:p∈L.all)(haz:az[k]?=some a)
 (han:¬a.answered=true) (hnw:¬a.waited+1<cf.pat) (htr:¬cf.tries<=a.tried) (q:Nat) {wi' nj':Nat} (hwi:wh.getD a.shard 0=wi') (hnj:(cf.shards.getD a.shard []).length=nj') {dd':Int} (hdd:dest cf (nextW cf wh a.shard) a.shard=dd') {fl' nm':Nat} (hfl:a.frame.length=fl') (hnm:ms.length=nm')
 (hlt:k<n) {vs:List Value} (hvs:wr.ownsRow 0 44 3 v nm' vs/\MsOk (v.ownBlock.toList++(L.all++U)) wr ms vs):
 Calls Tryz.prog 31 #[.pointer (some ⟨L.b,0,none⟩),.pointer (some ⟨p,0,none⟩)] (((wr.setCell ⟨p,5,none⟩ (.int .i64 ((a.waited:Int)+1))).drewN q).setCell ⟨L.gw,a.shard,none⟩ (.int .i64 (((wi':Int)+1)%(nj':Int)))) fun e w2=>∃A2 c2,e= .returned (.agg #[.int .i64 (cf.id:Int),.int .i64 dd',.slice A2 fl' c2])/\
  As ((w2.alloc (.cells #[.int .i64 (cf.id:Int),.int .i64 dd',.slice A2 fl' c2] 44)).ownsRow 0 44 3 v nm' vs)/\
  As (∀v3 w3,w3.ownsRow 0 44 3 v3 (nm'+1) (vs++[.int .i64 (cf.id:Int),.int .i64 dd',.slice A2 fl' c2])->Kp v.ownBlock.toList (w2.alloc (.cells #[.int .i64 (cf.id:Int),.int .i64 dd',.slice A2 fl' c2] 44)) w3->At (w2.heap.size+1) v.ownBlock v3.ownBlock->
   TkI U L cf s w n (k+1) (nextW cf wh a.shard) (az.set k {a with waited:=0,tried:=a.tried+1,hinted:=false}) (ms++[msgOf cf (nextW cf wh a.shard) a]) v3 w3):=by
 obtain⟨g1,g2,g3,g4,g5⟩:=h.wait hpk hpm haz ((Kp.refl [] _).drewN q)
 obtain⟨κ,VS,VW,VJ,VD,MV,AV,l,hp⟩:=g1
 have aok:=h.ok.asks a (List.mem_of_getElem? haz)
 have hwl:=h.ok.wlen
 have hwl:wh.length=cf.shards.length:=hwl
 obtain⟨_,_,_,_,_,_,_,cw,_,_,_,_,_,hVW,_⟩:=hp.dest g4 aok.shard
 have hval:(((wi':Int)+1)%(nj':Int))=(((wi'+1)%nj':Nat):Int):=rfl
 rw[hval]
 obtain⟨hp2,kW⟩:=hp.whom a.shard ((wi'+1)%nj') cw hVW (by show a.shard<wh.length;rw[hwl];exact aok.shard) rfl
 have hnext:wh.set a.shard ((wi'+1)%nj')=nextW cf wh a.shard:=by rw[nextW,hwi,hnj]
 have hst2:CoSt (v.ownBlock.toList++U) (((wr.setCell ⟨p,5,none⟩ (.int .i64 ((a.waited:Int)+1))).drewN q).setCell ⟨L.gw,a.shard,none⟩ (.int .i64 (((wi'+1)%nj':Nat):Int))) L cf {s with whom:=nextW cf wh a.shard,asks:=az.set k {a with waited:=a.waited+1}}:=by
  rw[<-hnext]
  exact⟨_,_,_,_,_,_,_,_,hp2⟩
 have hok2:=g4.next aok.shard
 have hkl:k<az.length:=by rw[h.len];exact hlt
 have hTR:=tried_any (v.ownBlock.toList++U) _ L cf _ k p {a with waited:=a.waited+1} hst2 hok2 hpk (by show(az.set k _)[k]?=_;simp[hkl]) (by show a.tried<cf.tries;omega)
 refine hTR.mono ?_
 rintro e w2 ⟨dv,rfl,hd,hc,hk2⟩
 obtain⟨A2,c2,rfl,hd2⟩:=id hd
 have hfd:dest cf ({s with whom:=nextW cf wh a.shard,asks:=az.set k {a with waited:=a.waited+1}}:Cs).whom ({a with waited:=a.waited+1}:Ask).shard=dd':=hdd
 rw[hfd,show({a with waited:=a.waited+1}:Ask).frame.length=fl' from hfl]
 have hgm:L.gw∈L.all:=Lay.mem.2 (by simp)
 have kAll:Kp L.all wr w2:=((g5.mono (T:=L.all) (by intro x hx;simp at hx;subst hx;exact .inl hpm)).trans kW (by intro x hx;simp at hx;subst hx;exact .inl hgm)).trans hk2 (by intro x hx;simp at hx;subst hx;exact .inl hpm)
 obtain⟨_,_,hv,_⟩:=h.out
 have hvL:∀x,v.ownBlock=some x->x∉L.all:=fun x e hm=>hv x e (List.mem_append.2 (.inl hm))
 have ho2:=kAll.own hvs.1 hvL
 have hdd2:BSl (L.all++(v.ownBlock.toList++U)) w2 (.slice A2 fl' c2) a.frame:=by
  have hd':=hd
  simp only[hfl] at hd'
  exact hd'
 refine⟨A2,c2,rfl,⟨ho2.alloc _⟩,⟨fun v3 w3 o3 k3 a3=> ?_⟩⟩
 have hs2:=kAll.size
 have hs0:=h.kp.size
 have hlt4:=h.st.lt
 have k13:Kp v.ownBlock.toList w2 w3:=((Kp.refl v.ownBlock.toList w2).alloc _).trans k3 (fun x hx=> .inl hx)
 have hu3:∀g,v3.ownBlock=some g->v.ownBlock=some g\/w2.heap.size<=g/\g<w3.heap.size:=by
  intro g e
  have h9:=own_lt o3 g e
  rcases a3 with e2|⟨y,e2,hy⟩
  ·rw[e2] at e;exact .inl e
  ·rw[e2] at e;cases e;exact .inr ⟨by omega,h9⟩
 have hlt5:∀x∈L.all++U,x<w2.heap.size:=fun x hx=>by
  have:=hlt4 x (by simp only[List.mem_append] at hx⊢;rcases hx with e|e;exact .inl e;exact .inr (.inr e))
  omega
 have hok3:=hok2.ask k (a:={a with waited:=0,tried:=a.tried+1,hinted:=false}) ⟨aok.shard,aok.ctx,aok.frame,by show a.tried+1<=cf.tries;omega,by show 0<=1001;omega⟩
 have hset:(az.set k {a with waited:=a.waited+1}).set k {a with waited:=0,tried:=a.tried+1,hinted:=false}=az.set k {a with waited:=0,tried:=a.tried+1,hinted:=false}:=List.set_set ..
 have hpat:=h.ok.cfg.pat
 have hgo:=h.go
 have hst:=tkGo_step cf (n-(k+1)) k wh az ms a haz
 rw[show n-(k+1)+1=n-k by omega] at hst
 rw[if_neg han,if_neg hnw,if_neg htr] at hst
 refine⟨?_,h.wt.set k (by show 0<cf.pat;omega),by rw[List.length_set];exact h.len, ?_, ?_,(h.kp.trans kAll (fun x hx=> .inl hx)).trans k13 (fun x hx=> .inr (h.own x (by simpa using hx))),fun g e=> ?_,by rw[List.length_append];have:=h.few;simp;omega,hst.symm.trans hgo⟩
 ·have h9:CsOk cf {s with whom:=nextW cf wh a.shard,asks:=(az.set k {a with waited:=a.waited+1}).set k {a with waited:=0,tried:=a.tried+1,hinted:=false}}:=hok3
  rw[hset] at h9
  exact h9
 ·have h9:=hc.kp (U2:=v3.ownBlock.toList++U) k13 (fun x hx=> .inl (List.mem_append.2 (.inl hx))) (fun x hx=>by
   rcases List.mem_append.1 hx with e|e
   ·rcases hu3 x (by simpa using e) with e2|e2
    ·exact .inl (List.mem_append.2 (.inl (by simp[e2])))
    ·exact .inr e2
   ·exact .inl (List.mem_append.2 (.inr e)))
  have h10:CoSt (v3.ownBlock.toList++U) w3 L cf {s with whom:=nextW cf wh a.shard,asks:=(az.set k {a with waited:=a.waited+1}).set k {a with waited:=0,tried:=a.tried+1,hinted:=false}}:=h9
  rw[hset] at h10
  exact h10
 ·have e1:msgOf cf (nextW cf wh a.shard) a=⟨cf.id,dd',a.frame⟩:=by rw[<-hdd];rfl
  rw[e1]
  refine OutI.snoc (m:=⟨cf.id,dd',a.frame⟩) hnm hlt5 hv (hvs.2.kp kAll (fun x hx=> .inl (List.mem_append.2 (.inr (List.mem_append.2 (.inl hx))))) (fun x hx=> .inl hx)) ?_ o3 k3 a3
  refine hdd2.kp (Kp.refl [] w2) (by simp) (fun x hx=> .inl ?_)
  simp only[List.mem_append] at hx⊢
  rcases hx with e|e|e
  ·exact .inr (.inl e)
  ·exact .inl e
  ·exact .inr (.inr e)
 ·rcases hu3 g e with e2|e2
  ·exact h.own g e2
  ·omega
end Go.Proofs.YtdiljpdohmeceaaGreat.co
