/- Words and walks that this claim rests on: proved lemmas alone. -/
import Derived.Test.YtdiljpdohmeceaaGreatZ31
set_option maxHeartbeats 16000000
set_option maxRecDepth 100000
namespace Go.Proofs.YtdiljpdohmeceaaGreat.co
open Go.RowKit H O opk frame wir
open cr (Dis)
theorem e3_nums{a b c:Int}(ha:0<=a/\a<=4611686018427387904)(hb:0<=b/\b<=4611686018427387904)(hc:0<=c/\c<=4611686018427387904)(r:List Int):stNums 3 (some (nums [a,b,c]++r))=([a,b,c],some r):=by
 have e0:stNum (some (nums [a,b,c]++r))=(O.cl a,some (nums [b,c]++r)):=by rw[nums_cons,List.append_assoc];exact stNum_num _ _
 have e1:stNum (some (nums [b,c]++r))=(O.cl b,some (nums [c]++r)):=by rw[nums_cons,List.append_assoc];exact stNum_num _ _
 have e2:stNum (some (nums [c]++r))=(O.cl c,some r):=by rw[nums_cons,List.append_assoc];exact stNum_num _ _
 simp only[stNums,e0,e1,e2,cl_of ha.1 ha.2,cl_of hb.1 hb.2,cl_of hc.1 hc.2]
theorem e3_one{p:List Int}(hp:p.length<=1048576):fOne (fEnc p)=(p,0):=by
 have h:=fDec_enc [] hp
 rw[List.append_nil] at h
 rw[fOne,if_neg (by rw[h];rintro⟨_,h2⟩;exact h2 (by rw[fEnc_len])),h]
theorem e3_pay(mark:Int)(vs xs:List Int):pay mark vs xs=mark::(nums vs++row xs):=by simp[pay]
theorem e3_enc{mark a b c:Int}{dat:List Int}{most:Nat}(ha:0<=a/\a<=4611686018427387904)(hb:0<=b/\b<=4611686018427387904)(hc:0<=c/\c<=4611686018427387904)(hd:dat.length<=most)(hm:most<=1000000):
 rd3 mark most (fEnc (pay mark [a,b,c] dat))=([a,b,c],dat,0):=by
 have hl:=pay_len mark [a,b,c] dat (by simp)
 have h1:fOne (fEnc (pay mark [a,b,c] dat))=(pay mark [a,b,c] dat,0):=e3_one (by omega)
 have h2:stRaw 1 (some (pay mark [a,b,c] dat))=([mark],some (nums [a,b,c]++row dat)):=by
  rw[e3_pay,O.stRaw]
  rw[if_neg (by simp only[List.length_cons];omega)]
  rfl
 have h3:=e3_nums ha hb hc (row dat)
 have h4:stBytes (some (row dat))=(dat,some []):=by
  have:=stBytes_row dat [] (by omega)
  rwa[List.append_nil] at this
 rw[rd3,h1,if_neg (by simp),h2,if_neg (by simp)]
 simp only[h3,h4]
 rw[if_pos ⟨trivial,hd⟩]
theorem e3_req{k c s:Int}{dat:List Int}(h:rqOk k c s=true)(hd:dat.length<=8192):ref22.dWReq (fEnc (pay 113 [k,c,s] dat))=(⟨k,c,s,dat⟩,0):=by
 have hb:=ref22.rqOk_iff.1 h
 rw[ref22.dWReq,e3_enc (by omega) (by omega) (by omega) hd (by decide),if_neg (by simp)]
 simp only[List.getD_cons_zero,List.getD_cons_succ]
 rw[if_pos h]
theorem e3_rep{c e s:Int}{dat:List Int}(h:wrOk c e s=true)(hd:dat.length<=524288):dWRep (fEnc (pay 114 [c,e,s+1] dat))=(⟨c,e,s,dat⟩,0):=by
 have hb:=ref22.wrOk_iff.1 h
 rw[dWRep,e3_enc (by omega) (by omega) (by omega) hd (by decide),if_neg (by simp)]
 simp only[List.getD_cons_zero,List.getD_cons_succ]
 rw[show s+1-1=s by omega,if_pos h]
def FrOk(f:List Int):Prop:=f.length<=10000/\Wf f/\(ref22.dWReq f).2=0
theorem frame_ok{cf:Cfg}{num ctx sh:Nat}{j:Job}(hj:JobOk j)(hc:ctx<=1000000)(hs:sh<=255):FrOk (frameOf cf num j ctx sh):=by
 obtain⟨h1,h2⟩:=jdata_len (cf:=cf) (num:=num) hj
 have hl:=pay_len 113 [wkind j,(ctx:Int),(sh:Int)] (jdata cf num j) (by simp)
 refine⟨by rw[frameOf,fEnc_len];omega,fEnc_wf (pay_wf (by omega) h2), ?_⟩
 have hk:1<=wkind j/\wkind j<=4:=by unfold wkind;split<;>(try split)<;>(try split)<;>omega
 rw[frameOf,e3_req (ref22.rqOk_iff.2 ⟨hk,by omega,by omega⟩) (by omega)]
def Cor(a b:Ask):Prop:=b.shard=a.shard/\b.ctx=a.ctx/\b.frame=a.frame/\b.answered=a.answered/\b.ms=a.ms
def CorL(az bz:List Ask):Prop:=bz.length=az.length/\∀(i:Nat) (b:Ask),bz[i]?=some b->∃a,az[i]?=some a/\Cor a b
theorem CorL.refl(az:List Ask):CorL az az:=⟨rfl,fun _ b h=>⟨b,h,rfl,rfl,rfl,rfl,rfl⟩⟩
theorem CorL.set{az bz:List Ask}(h:CorL az bz){k:Nat}{a b:Ask}(ha:bz[k]?=some a)(hb:Cor a b):CorL az (bz.set k b):=by
 refine⟨by rw[List.length_set];exact h.1,fun i c hc=> ?_⟩
 by_cases e:i=k
 ·subst e
  have hl:=(List.getElem?_eq_some_iff.1 ha).1
  rw[List.getElem?_set_self hl] at hc
  cases hc
  obtain⟨d,hd,q1,q2,q3,q4,q5⟩:=h.2 i a ha
  exact⟨d,hd,hb.1.trans q1,hb.2.1.trans q2,hb.2.2.1.trans q3,hb.2.2.2.1.trans q4,hb.2.2.2.2.trans q5⟩
 ·rw[List.getElem?_set_ne (by omega)] at hc
  exact h.2 i c hc
theorem tkGo_cor{cf:Cfg}{az0:List Ask}:∀(f k:Nat) (wh:List Nat) (az:List Ask) (out:List Msg),CorL az0 az->(∀m∈out,∃a∈az0,m.data=a.frame)->
 CorL az0 (tkGo cf f k wh az out).2.1/\(∀m∈(tkGo cf f k wh az out).2.2.1,∃a∈az0,m.data=a.frame)/\(tkGo cf f k wh az out).2.2.1.length<=out.length+f
 |0,k,wh,az,out,h,ho=>⟨h,ho,Nat.le_refl _⟩
 |f+1,k,wh,az,out,h,ho=>by
  cases haz:az[k]? with
  |none=>
   have e:tkGo cf (f+1) k wh az out=(wh,az,out,false):=by simp only[tkGo,haz]
   rw[e]
   exact⟨h,ho,by simp⟩
  |some a=>
   rw[tkGo_step cf f k wh az out a haz]
   by_cases h1:a.answered=true
   ·rw[if_pos h1]
    obtain⟨q1,q2,q3⟩:=tkGo_cor (cf:=cf) f (k+1) wh az out h ho
    exact⟨q1,q2,by omega⟩
   ·rw[if_neg h1]
    by_cases h2:a.waited+1<cf.pat
    ·rw[if_pos h2]
     obtain⟨q1,q2,q3⟩:=tkGo_cor (cf:=cf) f (k+1) wh (az.set k {a with waited:=a.waited+1}) out (h.set haz ⟨rfl,rfl,rfl,rfl,rfl⟩) ho
     exact⟨q1,q2,by omega⟩
    ·rw[if_neg h2]
     by_cases h3:cf.tries<=a.tried
     ·rw[if_pos h3]
      exact⟨h.set haz ⟨rfl,rfl,rfl,rfl,rfl⟩,ho,by simp⟩
     ·rw[if_neg h3]
      obtain⟨c,hc,_,_,hf,_⟩:=h.2 k a haz
      obtain⟨q1,q2,q3⟩:=tkGo_cor (cf:=cf) f (k+1) (nextW cf wh a.shard) (az.set k {a with waited:=0,tried:=a.tried+1,hinted:=false}) (out++[msgOf cf (nextW cf wh a.shard) a]) (h.set haz ⟨rfl,rfl,rfl,rfl,rfl⟩) (fun m hm=>by
       rcases List.mem_append.1 hm with e|e
       ·exact ho m e
       ·rw[List.mem_singleton.1 e]
        exact⟨c,List.mem_of_getElem? hc,hf⟩)
      exact⟨q1,q2,by simp only[List.length_append,List.length_singleton] at q3;omega⟩
structure PInv(cf:Cfg)(s:Cs)(k:Nat):Prop where
 ok:CsOk cf s
 wt:Wt cf s.asks
 ho:HOk s
 dis:Dis s.asks
 fr:∀a∈s.asks,FrOk a.frame
 txt:∀j∈s.jobs,j.kind=2->j.text=[]
 two:s.asks.length<=cf.shards.length
 don:s.done.length<=s.ended
 job:s.ended+s.jobs.length<=k
 ctx:s.ctx<=8*k
theorem PInv.le{cf:Cfg}{s:Cs}{k k2:Nat}(h:PInv cf s k)(hk:k<=k2):PInv cf s k2:=⟨h.ok,h.wt,h.ho,h.dis,h.fr,h.txt,h.two,h.don,by have:=h.job;omega,by have:=h.ctx;omega⟩
theorem HOk.cor{s:Cs}(h:HOk s){wh:List Nat}{az:List Ask}(hc:CorL s.asks az):HOk {s with whom:=wh,asks:=az}:=by
 refine⟨fun b hb e=> ?_,fun j r hj hk=>by show az.length<=1;rw[hc.1];exact h.one j r hj hk,fun b hb=> ?_⟩
 ·obtain⟨i,hi⟩:=List.getElem?_of_mem hb
  obtain⟨a,ha,_,_,_,q4,q5⟩:=hc.2 i b hi
  rw[q5]
  exact h.ms0 a (List.mem_of_getElem? ha) (by rw[<-q4];exact e)
 ·obtain⟨i,hi⟩:=List.getElem?_of_mem hb
  obtain⟨a,ha,_,_,_,q4,q5⟩:=hc.2 i b hi
  rw[q5]
  exact h.big a (List.mem_of_getElem? ha)
theorem Dis.cor{az bz:List Ask}(h:Dis az)(hc:CorL az bz):Dis bz:=fun i1 i2 b1 b2 h1 h2 e=>by
 obtain⟨a1,ha1,_,q1,_⟩:=hc.2 i1 b1 h1
 obtain⟨a2,ha2,_,q2,_⟩:=hc.2 i2 b2 h2
 exact h i1 i2 a1 a2 ha1 ha2 (by rw[<-q1,<-q2];exact e)
theorem fr_cor{az bz:List Ask}(h:∀a∈az,FrOk a.frame)(hc:CorL az bz):∀a∈bz,FrOk a.frame:=fun b hb=>by
 obtain⟨i,hi⟩:=List.getElem?_of_mem hb
 obtain⟨a,ha,_,_,q3,_⟩:=hc.2 i b hi
 rw[q3]
 exact h a (List.mem_of_getElem? ha)
theorem PInv.endJob{cf:Cfg}{s s1:Cs}{k:Nat}(h:PInv cf s k)(hne:s.jobs≠[])(h1:s1.jobs=s.jobs)(h2:s1.ended=s.ended)(h3:s1.done=s.done)(h4:s1.ctx=s.ctx)(ok:CsOk cf s1)(r:Res):PInv cf (co.endJob s1 r) k:=by
 have hl:s.jobs.length=s.jobs.tail.length+1:=by
  cases e:s.jobs with
  |nil=>exact absurd e hne
  |cons j l=>rfl
 refine⟨endErr_ok ok r,fun a ha=>by simp[co.endJob] at ha,⟨fun a ha=>by simp[co.endJob] at ha,fun j l _ _=>by simp[co.endJob],fun a ha=>by simp[co.endJob] at ha⟩,fun i1 i2 a1 a2 e=>by simp[co.endJob] at e,fun a ha=>by simp[co.endJob] at ha,fun j hj=> ?_,by simp[co.endJob], ?_, ?_,by show s1.ctx<=_;rw[h4];exact h.ctx⟩
 ·have hj:j∈s1.jobs.tail:=hj
  rw[h1] at hj
  exact h.txt j (List.mem_of_mem_tail hj)
 ·show(s1.done++[r]).length<=s1.ended+1
  rw[h2,h3,List.length_append]
  have:=h.don
  simp
  omega
 ·show s1.ended+1+s1.jobs.tail.length<=k
  rw[h1,h2]
  have:=h.job
  omega
theorem PInv.tick{cf:Cfg}{s:Cs}{k:Nat}(h:PInv cf s k)(hk:k<=10000):PInv cf (co.tick cf s).1 (k+1)/\(∀m∈(co.tick cf s).2,FrOk m.data)/\(co.tick cf s).2.length<=cf.shards.length:=by
 obtain⟨i1,i2⟩:=tick_inv h.ok h.wt
 have hl:=h.ok.cfg.len
 cases hj:s.jobs with
 |nil=>
  rw[tick_none hj]
  exact⟨⟨h.ok,h.wt,h.ho,h.dis,h.fr,h.txt,h.two,h.don,by have:=h.job;show s.ended+s.jobs.length<=k+1;omega,by have:=h.ctx;show s.ctx<=8*(k+1);omega⟩,by simp,by simp⟩
 |cons j r=>
  have hjk:JobOk j:=h.ok.jobs j (by rw[hj];simp)
  have hne:s.jobs≠[]:=by rw[hj];simp
  by_cases ha:s.asks=[]
  ·rw[tick_new hj ha] at i1 i2⊢
   obtain⟨hj1,hj2⟩:=jshards_len (j:=j) hl.1
   have hfr:∀a∈mkAsks cf s.ended j 1 s.ctx (jshards cf j),FrOk a.frame:=fun a ha=>by
    obtain⟨i,hi⟩:=List.getElem?_of_mem ha
    have hlt:i<(jshards cf j).length:=by
     obtain⟨h9,_⟩:=List.getElem?_eq_some_iff.1 hi
     rw[mkAsks_len] at h9
     exact h9
    rw[mkAsks_get _ _ _ _ _ _ _ hlt] at hi
    cases hi
    have hsh:=(i1.asks _ ha).shard
    have hc:=h.ctx
    exact frame_ok hjk (by omega) (by
     have:(jshards cf j)[i]<cf.shards.length:=hsh
     omega)
   refine⟨⟨i1,i2,⟨fun a ha _=> ?_,fun j2 r2 hj2' hk4=> ?_,fun a ha=> ?_⟩,fun p q a b hp hq e=> ?_,hfr,h.txt, ?_,h.don,by have:=h.job;show s.ended+s.jobs.length<=k+1;omega,by have:=h.ctx;show s.ctx+(jshards cf j).length<=_;omega⟩,fun m hm=> ?_,by simp only[List.length_map,mkAsks_len];exact hj2⟩
   ·obtain⟨i,hi⟩:=List.getElem?_of_mem ha
    have hlt:i<(jshards cf j).length:=by
     obtain⟨h9,_⟩:=List.getElem?_eq_some_iff.1 hi
     rw[mkAsks_len] at h9
     exact h9
    rw[mkAsks_get _ _ _ _ _ _ _ hlt] at hi
    cases hi
    rfl
   ·have e:s.jobs=j2::r2:=hj2'
    rw[hj] at e
    cases e
    show(mkAsks cf s.ended j 1 s.ctx (jshards cf j)).length<=1
    rw[mkAsks_len,jshards,if_neg hk4]
    simp
   ·obtain⟨i,hi⟩:=List.getElem?_of_mem ha
    have hlt:i<(jshards cf j).length:=by
     obtain⟨h9,_⟩:=List.getElem?_eq_some_iff.1 hi
     rw[mkAsks_len] at h9
     exact h9
    rw[mkAsks_get _ _ _ _ _ _ _ hlt] at hi
    cases hi
    show([]:List (ByteArray×Int)).length<=_
    simp
   ·have hp:(mkAsks cf s.ended j 1 s.ctx (jshards cf j))[p]?=some a:=hp
    have hq:(mkAsks cf s.ended j 1 s.ctx (jshards cf j))[q]?=some b:=hq
    have l1:p<(jshards cf j).length:=by have:=(List.getElem?_eq_some_iff.1 hp).1;rwa[mkAsks_len] at this
    have l2:q<(jshards cf j).length:=by have:=(List.getElem?_eq_some_iff.1 hq).1;rwa[mkAsks_len] at this
    rw[mkAsks_get _ _ _ _ _ _ _ l1] at hp
    rw[mkAsks_get _ _ _ _ _ _ _ l2] at hq
    cases hp
    cases hq
    have e:s.ctx+p+1=s.ctx+q+1:=e
    omega
   ·show(mkAsks cf s.ended j 1 s.ctx (jshards cf j)).length<=_
    rw[mkAsks_len]
    exact hj2
   ·obtain⟨a,ha,rfl⟩:=List.mem_map.1 hm
    exact hfr a ha
  ·obtain⟨⟨wh,az,out,b⟩,hgo⟩:∃x,tkGo cf s.asks.length 0 s.whom s.asks []=x:=⟨_,rfl⟩
   obtain⟨c1,c2,c3⟩:=tkGo_cor (cf:=cf) (az0:=s.asks) s.asks.length 0 s.whom s.asks [] (CorL.refl _) (by simp)
   have hg:=tkGo_ok (s:=s) s.asks.length 0 s.whom s.asks [] h.ok h.wt hne
   rw[hgo] at c1 c2 c3 hg
   have hfo:∀m∈out,FrOk m.data:=fun m hm=>by
    obtain⟨a,ha,e⟩:=c2 m hm
    rw[e]
    exact h.fr a ha
   have hol:out.length<=cf.shards.length:=by have:=h.two;simp only[List.length_nil,Nat.zero_add] at c3;omega
   cases b with
   |true=>
    rw[tick_end hj ha hgo] at i1 i2⊢
    refine⟨?_,hfo,hol⟩
    have:=h.endJob (s1:={s with whom:=wh,asks:=az}) hne rfl rfl rfl rfl hg.1 ⟨s.ended,14,false,false,[],[]⟩
    exact this.le (by omega)
   |false=>
    rw[tick_go hj ha hgo] at i1 i2⊢
    exact⟨⟨i1,i2,h.ho.cor c1,Dis.cor h.dis c1,fr_cor h.fr c1,h.txt,by show az.length<=_;rw[c1.1];exact h.two,h.don,by have:=h.job;show s.ended+s.jobs.length<=k+1;omega,by have:=h.ctx;show s.ctx<=8*(k+1);omega⟩,hfo,hol⟩
theorem PInv.hear{cf:Cfg}{s:Cs}{k:Nat}{m:Msg}(h:PInv cf s k)(hm:m.data.length<=50000):PInv cf (co.hear cf s m).1 k/\(∀m'∈(co.hear cf s m).2,FrOk m'.data)/\(co.hear cf s m).2.length<=1:=by
 have no:PInv cf ((s,[]):Cs×List Msg).1 k/\(∀m'∈((s,[]):Cs×List Msg).2,FrOk m'.data)/\((s,[]):Cs×List Msg).2.length<=1:=⟨h,by simp,by simp⟩
 by_cases hd:m.dst≠(cf.id:Int)\/m.frm<0\/7<=m.frm
 ·rw[show co.hear cf s m=(s,[]) by unfold co.hear;rw[if_pos hd]]
  exact no
 ·cases hj:s.jobs with
  |nil=>
   rw[show co.hear cf s m=(s,[]) by unfold co.hear;rw[if_neg hd,hj]]
   exact no
  |cons j jr=>
   have hne:s.jobs≠[]:=by rw[hj];simp
   by_cases hz:(dWRep m.data).2=0
   ·cases hi:askIx s.asks (dWRep m.data).1.ctx with
    |none=>
     rw[show co.hear cf s m=(s,[]) by
      unfold co.hear
      rw[if_neg hd,hj]
      simp only
      rw[if_neg (by rw[hz];simp),hi]]
     exact no
    |some i=>
     obtain⟨a,ha,han,_,_⟩:=askIx_some hi
     have hms0:=h.ho.ms0 a (List.mem_of_getElem? ha) han
     have aok:=h.ok.asks a (List.mem_of_getElem? ha)
     rw[hear_cons hd hj hz hi ha]
     by_cases e0:(dWRep m.data).1.err=0
     ·rw[if_pos e0]
      by_cases ht:(took j (dWRep m.data).1.data).err≠0
      ·rw[if_pos ht]
       exact⟨h.endJob hne rfl rfl rfl rfl h.ok _,by simp,by simp⟩
      ·rw[if_neg ht]
       by_cases hall:(s.asks.set i {a with answered:=true,ms:=(took j (dWRep m.data).1.data).ms}).all (·.answered)=true
       ·rw[if_pos hall]
        exact⟨h.endJob hne rfl rfl rfl rfl h.ok _,by simp,by simp⟩
       ·rw[if_neg hall]
        have hml:(took j (dWRep m.data).1.data).ms.length<=50000:=by
         have h1:=took_err0 (j:=j) (data:=(dWRep m.data).1.data)
         have h2:=(dWRep_dat m.data).1
         omega
        have hw:=h.wt a (List.mem_of_getElem? ha)
        refine⟨⟨h.ok.ask i (a:={a with answered:=true,ms:=_}) ⟨aok.shard,aok.ctx,aok.frame,aok.tried,aok.waited⟩,h.wt.set i (a:={a with answered:=true,ms:=_}) hw,⟨fun b hb e=> ?_,fun j2 r2 e hk4=> ?_,fun b hb=> ?_⟩,fun p q b c hp hq e=> ?_,fun b hb=> ?_,h.txt, ?_,h.don,h.job,h.ctx⟩,by simp,by simp⟩
        ·rcases List.mem_or_eq_of_mem_set hb with e2|e2
         ·exact h.ho.ms0 b e2 e
         ·rw[e2] at e;cases e
        ·show(s.asks.set i _).length<=1
         rw[List.length_set]
         exact h.ho.one j2 r2 e hk4
        ·rcases List.mem_or_eq_of_mem_set hb with e2|e2
         ·exact h.ho.big b e2
         ·rw[e2];exact hml
        ·have key:∀(q:Nat) (c:Ask),(s.asks.set i {a with answered:=true,ms:=(took j (dWRep m.data).1.data).ms})[q]?=some c->∃d,s.asks[q]?=some d/\d.ctx=c.ctx:=fun q c hq=>by
          by_cases e9:q=i
          ·subst e9
           rw[List.getElem?_set_self (List.getElem?_eq_some_iff.1 ha).1] at hq
           cases hq
           exact⟨a,ha,rfl⟩
          ·rw[List.getElem?_set_ne (by omega)] at hq
           exact⟨c,hq,rfl⟩
         obtain⟨b',g1,g2⟩:=key p b hp
         obtain⟨c',g3,g4⟩:=key q c hq
         exact h.dis p q b' c' g1 g3 (by rw[g2,g4];exact e)
        ·rcases List.mem_or_eq_of_mem_set hb with e2|e2
         ·exact h.fr b e2
         ·rw[e2];exact h.fr a (List.mem_of_getElem? ha)
        ·show(s.asks.set i _).length<=_
         rw[List.length_set]
         exact h.two
     ·rw[if_neg e0]
      by_cases e11:(dWRep m.data).1.err=11
      ·rw[if_pos e11]
       cases hx:nodeIx cf a.shard (dWRep m.data).1.hint with
       |none=>exact no
       |some at_=>
        simp only
        by_cases hh:(dWRep m.data).1.hint=m.frm\/a.hinted=true
        ·rw[if_pos hh];exact no
        ·rw[if_neg hh]
         have hC:CorL s.asks (s.asks.set i {a with hinted:=true,waited:=0}):=(CorL.refl _).set ha ⟨rfl,rfl,rfl,rfl,rfl⟩
         have hp:=h.ok.cfg.pat
         obtain⟨x1,_⟩:=nodeIx_some hx
         have ok2:=h.ok.hint ha x1
         have ok3:CsOk cf {s with whom:=s.whom.set a.shard at_,asks:=s.asks.set i {a with hinted:=true,waited:=0}}:=by
          have:=ok2.ask i (a:={a with hinted:=true,waited:=0}) ⟨aok.shard,aok.ctx,aok.frame,aok.tried,by show 0<=1001;omega⟩
          rw[show({s with whom:=s.whom.set a.shard at_,asks:=s.asks.set i {a with hinted:=true}}:Cs).asks=s.asks.set i {a with hinted:=true} from rfl,List.set_set] at this
          exact this
         exact⟨⟨ok3,h.wt.set i (a:={a with hinted:=true,waited:=0}) (by show 0<cf.pat;omega),h.ho.cor hC,Dis.cor h.dis hC,fr_cor h.fr hC,h.txt,by show(s.asks.set i _).length<=_;rw[List.length_set];exact h.two,h.don,h.job,h.ctx⟩,fun m' hm'=>by rw[List.mem_singleton.1 hm'];exact h.fr a (List.mem_of_getElem? ha),by simp⟩
      ·rw[if_neg e11]
       by_cases es:(dWRep m.data).1.err=12\/(dWRep m.data).1.err=14\/(dWRep m.data).1.err=9\/(dWRep m.data).1.err=7
       ·rw[if_pos es];exact no
       ·rw[if_neg es]
        exact⟨h.endJob hne rfl rfl rfl rfl h.ok _,by simp,by simp⟩
   ·rw[show co.hear cf s m=(s,[]) by
     unfold co.hear
     rw[if_neg hd,hj]
     simp only
     rw[if_pos hz]]
    exact no
theorem PInv.gives{cf:Cfg}{s:Cs}{k:Nat}{j:Job}(h:PInv cf s k)(hj:JobOk j)(ht:j.kind=2->j.text=[]):PInv cf (co.gives s j) (k+1):=by
 refine⟨⟨h.ok.cfg,h.ok.wlen,h.ok.whom,fun x hx=> ?_,h.ok.asks,fun e=>by simp[co.gives] at e,h.ok.few⟩,h.wt,⟨h.ho.ms0,fun j2 r2 e hk4=> ?_,h.ho.big⟩,h.dis,h.fr,fun x hx hk2=> ?_,h.two,h.don,by have:=h.job;show s.ended+(s.jobs++[j]).length<=k+1;simp;omega,by have:=h.ctx;show s.ctx<=8*(k+1);omega⟩
 ·rcases List.mem_append.1 hx with e|e
  ·exact h.ok.jobs x e
  ·rw[List.mem_singleton.1 e];exact hj
 ·cases e2:s.jobs with
  |nil=>
   have:=h.ok.none e2
   show s.asks.length<=1
   rw[this]
   simp
  |cons j3 r3=>
   have e:s.jobs++[j]=j2::r2:=e
   rw[e2,List.cons_append] at e
   have e9:=(List.cons.inj e).1
   rw[<-e9] at hk4
   exact h.ho.one j3 r3 e2 hk4
 ·rcases List.mem_append.1 hx with e|e
  ·exact h.txt x e hk2
  ·rw[List.mem_singleton.1 e] at hk2⊢;exact ht hk2
theorem PInv.sum{cf:Cfg}{s:Cs}{k:Nat}{m:Msg}(h:PInv cf s k)(h2:cf.shards.length<=2)(hm:m.data.length<=50000):∀i a j jr,s.jobs=j::jr->askIx s.asks (dWRep m.data).1.ctx=some i->s.asks[i]?=some a->((s.asks.set i {a with answered:=true,ms:=(took j (dWRep m.data).1.data).ms}).flatMap (·.ms)).length<=100000:=fun i a j jr _ _ ha=>by
 have hml:(took j (dWRep m.data).1.data).ms.length<=50000:=by
  have h1:=took_err0 (j:=j) (data:=(dWRep m.data).1.data)
  have h2:=(dWRep_dat m.data).1
  omega
 have:=sum_le (s.asks.set i {a with answered:=true,ms:=(took j (dWRep m.data).1.data).ms}) (fun b hb=>by
  rcases List.mem_or_eq_of_mem_set hb with e2|e2
  ·exact h.ho.big b e2
  ·rw[e2];exact hml)
 rw[List.length_set] at this
 have:=h.two
 omega
end Go.Proofs.YtdiljpdohmeceaaGreat.co
namespace Go.Proofs.YtdiljpdohmeceaaGreat.co
open Go.RowKit H O opk frame wir
open cr (RLay RsSt RNewJ RGrew Dis)
structure PrS(U:List Nat)(w:World)(P:Nat)(L:Lay)(M:RLay)(cf:Cfg)(s t:Cs)(WV:Value)(ms:List Msg):Prop where
 pr:PairP (WV.ownBlock.toList++U) w P L M cf s t WV
 way:WayI (S0 P L M U) w WV ms
theorem PairW.prs{U:List Nat}{w:World}{P:Nat}{L:Lay}{M:RLay}{cf:Cfg}{s:Cs}{WV:Value}{ms:List Msg}(h:PairW U w P L M cf s WV ms):PrS U w P L M cf s s WV ms:=⟨h.pr,h.way⟩
theorem PrS.pair{U:List Nat}{w:World}{P:Nat}{L:Lay}{M:RLay}{cf:Cfg}{s:Cs}{WV:Value}{ms:List Msg}(h:PrS U w P L M cf s s WV ms):PairW U w P L M cf s WV ms:=⟨h.pr,h.way⟩
theorem PrS.lt{U:List Nat}{w:World}{P:Nat}{L:Lay}{M:RLay}{cf:Cfg}{s t:Cs}{WV:Value}{ms:List Msg}(h:PrS U w P L M cf s t WV ms):∀x∈WV.ownBlock.toList++S0 P L M U,x<w.heap.size:=by
 intro x hx
 unfold S0 at hx
 have h1:=h.pr.c.lt
 simp only[List.mem_cons,List.mem_append] at hx h1
 rcases hx with e|e|e|e|e
 ·exact h1 x (.inr (.inr (.inr (.inl e))))
 ·exact h1 x (.inr (.inl e))
 ·exact h1 x (.inl e)
 ·exact h1 x (.inr (.inr (.inl e)))
 ·exact h1 x (.inr (.inr (.inr (.inr e))))
theorem PrS.kp{U U2 V:List Nat}{w w1:World}{P:Nat}{L:Lay}{M:RLay}{cf:Cfg}{s t:Cs}{WV:Value}{ms:List Msg}(h:PrS U w P L M cf s t WV ms)(k:Kp V w w1)(hV:∀x∈V,x∈U\/w.heap.size<=x)(hP:P∉V)(hU:∀x∈U2,x∈U\/w.heap.size<=x/\x<w1.heap.size):PrS U2 w1 P L M cf s t WV ms:=by
 have hU2:∀x∈WV.ownBlock.toList++U2,x∈WV.ownBlock.toList++U\/w.heap.size<=x/\x<w1.heap.size:=fun x hx=>by
  rcases List.mem_append.1 hx with e|e
  ·exact .inl (List.mem_append.2 (.inl e))
  ·exact(hU x e).imp (fun e=>List.mem_append.2 (.inr e)) id
 have up:∀(Z:List Nat),∀x∈P::(Z++(WV.ownBlock.toList++U2)),x∈P::(Z++(WV.ownBlock.toList++U))\/w.heap.size<=x/\x<w1.heap.size:=fun Z x hx=>by
  rcases List.mem_cons.1 hx with e|e
  ·exact .inl (by simp[e])
  ·rcases List.mem_append.1 e with e|e
   ·exact .inl (List.mem_cons_of_mem _ (List.mem_append.2 (.inl e)))
   ·exact(hU2 x e).imp (fun e=>List.mem_cons_of_mem _ (List.mem_append.2 (.inr e))) id
 refine⟨⟨k.blk h.pr.hd hP,h.pr.c.kp k (fun x hx=>(hV x hx).imp (fun e=>by simp[e]) id) (up _),h.pr.x.kp k (fun x hx=>(hV x hx).imp (fun e=>by simp[e]) id) (up _)⟩,h.way.kp k (fun x hx=>(hV x hx).imp (fun e=>by simp[S0,e]) id) (fun x hx=> ?_)⟩
 unfold S0 at hx⊢
 simp only[List.mem_cons,List.mem_append] at hx⊢
 rcases hx with e|e|e|e
 ·exact .inl (.inl e)
 ·exact .inl (.inr (.inl e))
 ·exact .inl (.inr (.inr (.inl e)))
 ·exact(hU x e).imp (fun e=> .inr (.inr (.inr e))) (fun e=>e.1)
theorem PrS.prog{U:List Nat}{w w1:World}{P:Nat}{L L1:Lay}{M:RLay}{cf:Cfg}{s t s1:Cs}{WV:Value}{ms:List Msg}(h:PrS U w P L M cf s t WV ms)(hc:CoSt (P::(M.all++(WV.ownBlock.toList++U))) w1 L1 cf s1)(g:Grew w L L1)(k:Kp L.all w w1):PrS U w1 P L1 M cf s1 t WV ms:=by
 refine⟨h.pr.prog hc g k,h.way.kp k (fun x hx=> .inl (by simp[S0,hx])) (fun x hx=> ?_)⟩
 unfold S0 at hx⊢
 simp only[List.mem_cons,List.mem_append] at hx⊢
 rcases hx with e|e|e|e
 ·exact .inl (.inl e)
 ·exact(g.2 x e).imp (fun e=> .inr (.inl e)) id
 ·exact .inl (.inr (.inr (.inl e)))
 ·exact .inl (.inr (.inr (.inr e)))
theorem PrS.docu{U:List Nat}{w w1:World}{P:Nat}{L:Lay}{M M1:RLay}{cf:Cfg}{s t t1:Cs}{WV:Value}{ms:List Msg}(h:PrS U w P L M cf s t WV ms)(hc:RsSt (P::(L.all++(WV.ownBlock.toList++U))) w1 M1 cf t1)(g:RGrew w M M1)(k:Kp M.all w w1):PrS U w1 P L M1 cf s t1 WV ms:=by
 refine⟨h.pr.docu hc g k,h.way.kp k (fun x hx=> .inl (by simp[S0,hx])) (fun x hx=> ?_)⟩
 unfold S0 at hx⊢
 simp only[List.mem_cons,List.mem_append] at hx⊢
 rcases hx with e|e|e|e
 ·exact .inl (.inl e)
 ·exact .inl (.inr (.inl e))
 ·exact(g.2 x e).imp (fun e=> .inr (.inr (.inl e))) id
 ·exact .inl (.inr (.inr (.inr e)))
theorem OutI.sub{S S2:List Nat}{w:World}{v:Value}{ms:List Msg}(h:OutI S w v ms)(hs:∀x∈S2,x∈S):OutI S2 w v ms:=h.kp (Kp.refl [] w) (by simp) (fun x hx=> .inl (hs x hx))
theorem OutI.prog{U:List Nat}{w:World}{P:Nat}{L:Lay}{M:RLay}{WV v:Value}{ms:List Msg}(h:OutI (L.all++(P::(M.all++(WV.ownBlock.toList++U)))) w v ms):OutI (WV.ownBlock.toList++S0 P L M U) w v ms:=h.sub (fun x hx=>by
 unfold S0 at hx
 simp only[List.mem_cons,List.mem_append] at hx⊢
 rcases hx with e|e|e|e|e
 ·exact .inr (.inr (.inr (.inl e)))
 ·exact .inr (.inl e)
 ·exact .inl e
 ·exact .inr (.inr (.inl e))
 ·exact .inr (.inr (.inr (.inr e))))
theorem OutI.docu{U:List Nat}{w:World}{P:Nat}{L:Lay}{M:RLay}{WV v:Value}{ms:List Msg}(h:OutI (M.all++(P::(L.all++(WV.ownBlock.toList++U)))) w v ms):OutI (WV.ownBlock.toList++S0 P L M U) w v ms:=h.sub (fun x hx=>by
 unfold S0 at hx
 simp only[List.mem_cons,List.mem_append] at hx⊢
 rcases hx with e|e|e|e|e
 ·exact .inr (.inr (.inr (.inl e)))
 ·exact .inr (.inl e)
 ·exact .inr (.inr (.inl e))
 ·exact .inl e
 ·exact .inr (.inr (.inr (.inr e))))
theorem OutI.behind{U:List Nat}{w w1:World}{P:Nat}{L:Lay}{M M1:RLay}{WV v:Value}{ms:List Msg}(h:OutI (WV.ownBlock.toList++S0 P L M U) w v ms)(g:RGrew w M M1)(k:Kp M.all w w1):OutI (WV.ownBlock.toList++S0 P L M1 U) w1 v ms:=h.kp k (fun x hx=> .inl (by simp[S0,hx])) (fun x hx=>by
 unfold S0 at hx⊢
 simp only[List.mem_cons,List.mem_append] at hx⊢
 rcases hx with e|e|e|e|e
 ·exact .inl (.inl e)
 ·exact .inl (.inr (.inl e))
 ·exact .inl (.inr (.inr (.inl e)))
 ·exact(g.2 x e).imp (fun e=> .inr (.inr (.inr (.inl e)))) id
 ·exact .inl (.inr (.inr (.inr (.inr e)))))
theorem BSl.prog{U:List Nat}{w w1:World}{P:Nat}{L L1:Lay}{M:RLay}{v:Value}{xs:List Int}(h:BSl (S0 P L M U) w v xs)(g:Grew w L L1)(k:Kp L.all w w1):BSl (S0 P L1 M U) w1 v xs:=h.kp k (fun x hx=> .inl (by simp[S0,hx])) (fun x hx=>by
 unfold S0 at hx⊢
 simp only[List.mem_cons,List.mem_append] at hx⊢
 rcases hx with e|e|e|e
 ·exact .inl (.inl e)
 ·exact(g.2 x e).imp (fun e=> .inr (.inl e)) id
 ·exact .inl (.inr (.inr (.inl e)))
 ·exact .inl (.inr (.inr (.inr e))))
theorem BSl.docu{U:List Nat}{w w1:World}{P:Nat}{L:Lay}{M M1:RLay}{v:Value}{xs:List Int}(h:BSl (S0 P L M U) w v xs)(g:RGrew w M M1)(k:Kp M.all w w1):BSl (S0 P L M1 U) w1 v xs:=h.kp k (fun x hx=> .inl (by simp[S0,hx])) (fun x hx=>by
 unfold S0 at hx⊢
 simp only[List.mem_cons,List.mem_append] at hx⊢
 rcases hx with e|e|e|e
 ·exact .inl (.inl e)
 ·exact .inl (.inr (.inl e))
 ·exact(g.2 x e).imp (fun e=> .inr (.inr (.inl e))) id
 ·exact .inl (.inr (.inr (.inr e))))
def Played(U:List Nat)(P:Nat)(L:Lay)(M:RLay)(cf:Cfg)(WV:Value)(s':Cs)(ms':List Msg)(w w':World):Prop:=
 ∃L' M' WV',PairW U w' P L' M' cf s' WV' ms'/\Kp (P::(L.all++(M.all++WV.ownBlock.toList))) w w'/\(∀x∈L'.all++(M'.all++WV'.ownBlock.toList),x∈L.all++(M.all++WV.ownBlock.toList)\/w.heap.size<=x)
end Go.Proofs.YtdiljpdohmeceaaGreat.co
namespace Go.Proofs.YtdiljpdohmeceaaGreat.haystacklaw24
open Go.RowKit H
theorem info_u8:(Tryz.prog.info? 5).map (fun i=>(i.zero,i.size,i.bytes))=some (some (.int .u8 0),1,1):=by kernel_rfl
theorem roomy_any(A:Option Addr)(n c:Nat)(xs:List Int)(w:World)(hn:xs.length=n)(h0:Rd w A (iv .u8 xs))(hnil:A=none->c=0)(hb:xs.length<=140737488351232):
 Calls Tryz.prog 57 #[.slice A n c] w (RetOwn 5 .u8 w (xs++[171])):=by
 subst hn
 have H0:=As.mk h0
 have HN:=As.mk hnil
 clear h0 hnil
 go_enter Tryz.func57,Tryz.ntmps57
 go_wp2_with (first
  |(at_builtin;refine wpList_app rfl (.tmp 3) (.tmp 4) 24 rfl 5 (.int .u8 0) 1 1 Tryz.underlying24 info_u8 rfl (by decide) (.slice (some ⟨w.heap.size,0,none⟩) 0 0) 0 [] rfl (own_new w [] _ (Nat.zero_le _)) A xs.length c (iv .u8 xs) rfl (by simp[iv]) (((Kp.refl [] w).alloc _).rd_new H0.out (by simp)) HN.out (iv_one _ _) (by omega) (by omega) ?_;intro v1 w1 o1 k1 a1 _;have O1:As (w1.ownsRow 0 5 1 v1 xs.length (iv .u8 xs)):=⟨by simpa using o1⟩;have K1:=As.mk k1;have A1:=As.mk a1;clear o1 k1 a1)
  |(at_builtin;refine wpList_app rfl (.tmp 5) (.tmp 6) 24 rfl 5 (.int .u8 0) 1 1 Tryz.underlying24 info_u8 rfl (by decide) v1 xs.length (iv .u8 xs) rfl (O1.out.alloc _) (some ⟨w1.heap.size,0,none⟩) 1 1 [.int .u8 171] rfl rfl (rd_one _ _ _) (by simp) (by simp[Value.oneCell']) (by omega) (by omega) ?_;intro v2 w2 o2 k2 a2 _;have O2:=As.mk o2;have K2:=As.mk k2;have A2:=As.mk a2;clear o2 k2 a2)
  |(at_builtin;refine wpList_app rfl (.tmp 7) (.tmp 8) 24 rfl 5 (.int .u8 0) 1 1 Tryz.underlying24 info_u8 rfl (by decide) v2 (xs.length+1) (iv .u8 xs++[.int .u8 171]) rfl (O2.out.alloc _) (some ⟨w2.heap.size,0,none⟩) 1 1 [.int .u8 171] rfl rfl (rd_one _ _ _) (by simp) (by simp[Value.oneCell']) (by omega) (by omega) ?_;intro v3 w3 o3 k3 a3 _;obtain⟨g,cap,rfl,hc1,hc2⟩:=own_form o3 (by omega);have O3:=As.mk o3;have K3:=As.mk k3;have A3:=As.mk a3;clear o3 k3 a3))
 go_ret
 have HK1:Kp [] w w1:=((Kp.refl [] w).alloc _).trans K1.out (by simp[Value.ownBlock])
 have lo1:∀k,v1.ownBlock=some k->w.heap.size<=k:=A1.out.ge (by simp) (by simp[Value.ownBlock])
 have HK2:Kp [] w w2:=(HK1.alloc _).row K2.out (fun x hx=> .inr (lo1 x hx))
 have lo2:∀k,v2.ownBlock=some k->w.heap.size<=k:=A2.out.ge (by have:=HK1.size;simp;omega) lo1
 have HK3:Kp [] w w3:=(HK2.alloc _).row K3.out (fun x hx=> .inr (lo2 x hx))
 have lo3:=A3.out.ge (by have:=HK2.size;simp;omega) lo2
 have e:(iv .u8 xs++[Value.int .u8 171]++[Value.int .u8 171]).take (xs.length+1)=iv .u8 (xs++[171]):=by
  rw[List.take_left' (by simp[iv])]
  simp[iv]
 have O:=own_take O3.out rfl (m:=xs.length+1) (by omega)
 rw[e] at O
 exact⟨_,rfl,⟨by simpa using O,lo3⟩,HK3⟩
theorem stands_split{zs ys:List Int}(hl:zs.length=ys.length+1)(he:zs.take ys.length=ys):zs=ys++[zs[ys.length]]:=by
 have:=(List.take_succ_eq_append_getElem (l:=zs) (i:=ys.length) (by omega)).symm
 rw[he,List.take_of_length_le (by omega)] at this
 exact this.symm
theorem stands_any(A0 A1:Option Addr)(n0 c0 n1 c1:Nat)(zs ys:List Int)(w:World)(l0:zs.length=n0)(l1:ys.length=n1)(h0:Rd w A0 (iv .u8 zs))(h1:Rd w A1 (iv .u8 ys))
 (hc:n0<=c0) (hm:zs.length<=4611686018427387904) (hm1:ys.length<=4611686018427387904):
 Calls Tryz.prog 102 #[.slice A0 n0 c0,.slice A1 n1 c1] w fun e w'=>e= .returned (.bool (decide (zs=ys++[171])))/\∃n,w'=w.drewN n:=by
 subst l0 l1
 have H0:=As.mk h0
 have H1:=As.mk h1
 clear h0 h1
 by_cases hl:zs.length=ys.length+1
 ·have b1:((zs.length:Int)==(ys.length:Int)+1)=true:=by rw[beq_iff_eq];omega
  have hlt:ys.length<zs.length:=by omega
  obtain⟨a0,rfl,d0⟩:=H0.out.int ys.length hlt
  have HL:=As.mk hl
  clear hl
  have HS:=As.mk (same_any (some a0) A1 ys.length c0 ys.length c1 (zs.take ys.length) ys w (by rw[List.length_take];omega) rfl (by rw[<-iv_take];exact H0.out.take _) H1.out (by rw[List.length_take];omega))
  by_cases he:zs.take ys.length=ys
  ·by_cases hz:zs[ys.length]=171
   ·have b3:(zs[ys.length]==171)=true:=by simpa using hz
    have e:decide (zs=ys++[171])=true:=by rw[decide_eq_true_eq,stands_split HL.out he,hz]
    have HE:=As.mk he
    have HZ:=As.mk hz
    have HR:=As.mk e
    clear he hz e
    go_enter Tryz.func102,Tryz.ntmps102
    go_wp2_with (go_at_call 14;refine HS.out.mono ?_;rintro e w' ⟨rfl,n,rfl⟩;rw[decide_eq_true HE.out])
    go_ret
    exact⟨ret_bool HR.out.symm,_,rfl⟩
   ·have b3:(zs[ys.length]==171)=false:=by simpa using hz
    have e:decide (zs=ys++[171])=false:=by
     rw[decide_eq_false_iff_not,stands_split HL.out he]
     intro h
     exact hz (by simpa using h)
    have HE:=As.mk he
    have HZ:=As.mk hz
    have HR:=As.mk e
    clear he hz e
    go_enter Tryz.func102,Tryz.ntmps102
    go_wp2_with (go_at_call 14;refine HS.out.mono ?_;rintro e w' ⟨rfl,n,rfl⟩;rw[decide_eq_true HE.out])
    go_ret
    exact⟨ret_bool HR.out.symm,_,rfl⟩
  ·have e:decide (zs=ys++[171])=false:=by
    rw[decide_eq_false_iff_not]
    rintro rfl
    exact he (by simp)
   have HE:=As.mk he
   have HR:=As.mk e
   clear he e
   go_enter Tryz.func102,Tryz.ntmps102
   go_wp2_with (go_at_call 14;refine HS.out.mono ?_;rintro e w' ⟨rfl,n,rfl⟩;rw[decide_eq_false HE.out])
   go_ret
   exact⟨ret_bool HR.out.symm,_,rfl⟩
 ·have b1:((zs.length:Int)==(ys.length:Int)+1)=false:=by rw[beq_eq_false_iff_ne];omega
  have e:decide (zs=ys++[171])=false:=by
   rw[decide_eq_false_iff_not]
   rintro rfl
   exact hl (by simp)
  have HL:=As.mk hl
  have HR:=As.mk e
  clear hl e
  go_enter Tryz.func102,Tryz.ntmps102
  go_wp2
  go_ret
  exact⟨ret_bool HR.out.symm,0,rfl⟩
theorem spoil_any(v:Value)(n:Nat)(vs:List Value)(w:World)(ho:w.ownsRow 0 5 1 v n vs)(hb:n<=140737488351232):
 Calls Tryz.prog 58 #[v] w fun e w'=>e= .returned (.tuple #[])/\Kp v.ownBlock.toList w w':=by
 have HO:=As.mk ho
 clear ho
 go_enter Tryz.func58,Tryz.ntmps58
 go_wp2_with (at_builtin;refine wpList_app rfl (.tmp 4) (.tmp 5) 24 rfl 5 (.int .u8 0) 1 1 Tryz.underlying24 info_u8 rfl (by decide) v n vs rfl (HO.out.alloc _) (some ⟨w.heap.size,0,none⟩) 1 1 [.int .u8 99] rfl rfl (rd_one _ _ _) (by simp) (by simp[Value.oneCell']) (by omega) (by omega) ?_;intro v1 w1 o1 k1 a1 _;obtain⟨g,cap,rfl,hc1,hc2⟩:=own_form o1 (by omega);have O1:=As.mk o1;have K1:=As.mk k1;have A1:=As.mk a1;clear o1 k1 a1)
 have HK:As (Kp v.ownBlock.toList w w1):=⟨((Kp.refl _ w).alloc _).row K1.out (fun x hx=> .inl (by simpa using hx))⟩
 have HG:As (g∈v.ownBlock.toList\/w.heap.size<=g):=by
  constructor
  rcases A1.out with h|⟨k,h,hk⟩
  ·left;rw[<-h];simp[Value.ownBlock]
  ·right
   have:g=k:=by simpa [Value.ownBlock] using h
   simp at hk
   omega
 clear K1 A1
 go_loopw [3] (fun i wr=>∃k:Nat,i= .int .i64 k/\k<=n+1/\As (∃cs,wr.ownsRow 0 5 1 (.slice (some ⟨g,0,none⟩) (n+1) cap) (n+1) cs)/\As (Kp v.ownBlock.toList w wr)) (fun i _=>n+1-(intOf i).toNat)
 case atStart=>exact⟨0,rfl,by omega,⟨_,O1.out⟩,HK⟩
 case round=>
  obtain⟨k,rfl,hk,⟨cs,hcs⟩,hkp⟩:=hrel
  by_cases hlt:k<n+1
  ·obtain⟨⟨x,hx⟩,hf,hst⟩:=own_store hcs k hlt (.int .u8 98)
   have HC:=As.mk hst
   clear hcs hst
   go_wp2
   go_roundw
   case rel=>exact⟨k+1,by go_num,by omega,⟨_,HC.out⟩,⟨hkp.out.setCell HG.out _⟩⟩
   case measure=>simp[intOf];omega
  ·go_wp2
   go_end0
   exact⟨rfl,hkp.out⟩
end Go.Proofs.YtdiljpdohmeceaaGreat.haystacklaw24
