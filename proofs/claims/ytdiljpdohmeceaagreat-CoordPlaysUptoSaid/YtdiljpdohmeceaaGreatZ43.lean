/- Words and walks that this claim rests on: proved lemmas alone. -/
import Derived.Test.YtdiljpdohmeceaaGreatZ32
namespace Go.Proofs.YtdiljpdohmeceaaGreat.co
open Go.RowKit H O opk frame wir
def MOk(x:ByteArray×Int):Prop:=(1<=x.1.size/\x.1.size<=64)/\0<=x.2/\x.2<=4611686018427387904
theorem mIter_rows{ms:List (ByteArray×Int)}(h:∀x∈ms,MOk x)(r:List Int):∀k,k<=ms.length->mIter k (some (mRows ms++r))=(ms.take k,some (mRows (ms.drop k)++r))
 |0,_=>by simp[mIter]
 |k+1,hk=>by
  have ih:=mIter_rows h r k (by omega)
  have hx:=h ms[k] (List.getElem_mem _)
  have e:ms.drop k=ms[k]::ms.drop (k+1):=List.drop_eq_getElem_cons (by omega)
  have hs:=mStep_row (m:=ms[k]) (r:=mRows (ms.drop (k+1))++r) hx.1 hx.2
  simp only[mIter,ih,e,mRows_cons,List.append_assoc]
  rw[hs,take_succ' ms k (by omega)]
theorem dMs_rows{ms:List (ByteArray×Int)}(h:∀x∈ms,MOk x)(hn:ms.length<=100000):dMs (mBytes ms)=(ms,0):=by
 have h0:stNum (some (mBytes ms))=(O.cl (ms.length:Int),some (mRows ms)):=stNum_num _ _
 have c0:=cl_of (n:=(ms.length:Int)) (by omega) (by omega)
 have hc:O.cl (ms.length:Int)=ms.length:=by omega
 have hi:=mIter_rows h [] ms.length (Nat.le_refl _)
 rw[List.append_nil,List.take_length,List.drop_length] at hi
 rw[dMs_eq h0,hc,hi]
 simp[mRows]
theorem mBytes_len(ms:List (ByteArray×Int)):(mBytes ms).length<=9+4*mSize ms:=by
 have h1:=num_len (ms.length:Int)
 have h2:=mRows_len ms
 rw[mBytes,List.length_append]
 omega
theorem PInv.new{cf:Cfg}(h:CfgOk cf):PInv cf (newCs cf.shards.length) 0:=
 ⟨newCs_ok h,fun a ha=>by simp[newCs] at ha,⟨fun a ha=>by simp[newCs] at ha,fun j r e=>by simp[newCs] at e,fun a ha=>by simp[newCs] at ha⟩,fun i1 i2 a1 a2 e=>by simp[newCs] at e,fun a ha=>by simp[newCs] at ha,fun j hj=>by simp[newCs] at hj,by simp[newCs],by simp[newCs],by simp[newCs],by simp[newCs]⟩
def cfC:Cfg:=⟨9,50,3,[[0,1,2],[1,3]]⟩
def cfJ:Job:=jFind [120]
def cS1:Cs:=gives (newCs 2) cfJ
def cfAsk(i:Nat):Ask:=newAsk cfC 0 cfJ 1 (i+1) i
def cS2:Cs:={cS1 with asks:=[cfAsk 0,cfAsk 1],ctx:=2}
def cM(i:Nat):Msg:=⟨9,(i:Int),(cfAsk i).frame⟩
theorem cTick:tick cfC cS1=(cS2,[cM 0,cM 1]):=by
 rw[tick_new (j:=cfJ) (r:=[]) rfl rfl]
 rfl
theorem cReq(i:Nat)(hi:i<=1):ref22.dWReq (cM i).data=(⟨2,((i+1:Nat):Int),(i:Int),[120]⟩,0):=by
 show ref22.dWReq (fEnc (pay 113 [2,((i+1:Nat):Int),(i:Int)] [120]))=_
 exact e3_req (ref22.rqOk_iff.2 (by omega)) (by simp)
def cS3(i:Nat)(l:List (ByteArray×Int)):Cs:={cS2 with asks:=cS2.asks.set i {cfAsk i with answered:=true,ms:=l}}
def cRep(i:Nat)(l:List (ByteArray×Int)):List Int:=fEnc (pay 114 [((i+1:Nat):Int),0,0] (mBytes l))
theorem cRep_dec(i:Nat)(hi:i<=1){l:List (ByteArray×Int)}(hm:(mBytes l).length<=524288):dWRep (cRep i l)=(⟨((i+1:Nat):Int),0,-1,mBytes l⟩,0):=by
 have:=e3_rep (c:=((i+1:Nat):Int)) (e:=0) (s:= -1) (dat:=mBytes l) (ref22.wrOk_iff.2 (by omega)) hm
 exact this
theorem cTook{l:List (ByteArray×Int)}(h:∀x∈l,MOk x)(hn:l.length<=100000):took cfJ (mBytes l)=⟨false,false,[],l,0⟩:=by
 show tookF (mBytes l)=_
 rw[tookF,dMs_rows h hn]
 rfl
theorem cHear1(i:Nat)(hi:i<=1){l:List (ByteArray×Int)}(h:∀x∈l,MOk x)(hn:l.length<=100000)(hm:(mBytes l).length<=524288):hear cfC cS2 ⟨(i:Int),9,cRep i l⟩=(cS3 i l,[]):=by
 have hd:=cRep_dec i hi hm
 have ht:=cTook h hn
 rcases (by omega:i=0\/i=1) with rfl|rfl
 ·rw[hear_cons (j:=cfJ) (jr:=[]) (i:=0) (a:=cfAsk 0) (by show ¬((9:Int)≠9\/(0:Int)<0\/7<=(0:Int));omega) rfl (by show(dWRep (cRep 0 l)).2=0;rw[hd]) (by show askIx cS2.asks (dWRep (cRep 0 l)).1.ctx=some 0;rw[hd];rfl) rfl]
  show(if(dWRep (cRep 0 l)).1.err=0 then _ else _)=_
  rw[hd,if_pos rfl,ht]
  rfl
 ·rw[hear_cons (j:=cfJ) (jr:=[]) (i:=1) (a:=cfAsk 1) (by show ¬((9:Int)≠9\/(1:Int)<0\/7<=(1:Int));omega) rfl (by show(dWRep (cRep 1 l)).2=0;rw[hd]) (by show askIx cS2.asks (dWRep (cRep 1 l)).1.ctx=some 1;rw[hd];rfl) rfl]
  show(if(dWRep (cRep 1 l)).1.err=0 then _ else _)=_
  rw[hd,if_pos rfl,ht]
  rfl
def cRes(a b:List (ByteArray×Int)):Res:=⟨0,0,false,false,[],sortM (a++b)⟩
def cS4(a b:List (ByteArray×Int)):Cs:=endJob cS2 (cRes a b)
theorem cHear2(i:Nat)(hi:i<=1){a b la lb:List (ByteArray×Int)}(e1:la=if i=0 then b else a)(e2:lb=if i=0 then a else b)(h:∀x∈lb,MOk x)(hn:lb.length<=100000)(hm:(mBytes lb).length<=524288):hear cfC (cS3 (1-i) la) ⟨(i:Int),9,cRep i lb⟩=(cS4 a b,[]):=by
 have hd:=cRep_dec i hi hm
 have ht:=cTook h hn
 rcases (by omega:i=0\/i=1) with rfl|rfl
 ·rw[if_pos rfl] at e1 e2
  subst e1 e2
  rw[hear_cons (j:=cfJ) (jr:=[]) (i:=0) (a:=cfAsk 0) (by show ¬((9:Int)≠9\/(0:Int)<0\/7<=(0:Int));omega) rfl (by show(dWRep (cRep 0 lb)).2=0;rw[hd]) (by show askIx (cS3 1 la).asks (dWRep (cRep 0 lb)).1.ctx=some 0;rw[hd];rfl) rfl]
  show(if(dWRep (cRep 0 lb)).1.err=0 then _ else _)=_
  rw[hd,if_pos rfl,ht]
  show(if(0:Int)≠0 then _ else if true=true then(endJob (cS3 1 la) ⟨0,0,false,false,[],sortM (lb++(la++[]))⟩,[]) else _)=_
  rw[if_neg (by omega),if_pos rfl,List.append_nil]
  rfl
 ·rw[if_neg (by decide)] at e1 e2
  subst e1 e2
  rw[hear_cons (j:=cfJ) (jr:=[]) (i:=1) (a:=cfAsk 1) (by show ¬((9:Int)≠9\/(1:Int)<0\/7<=(1:Int));omega) rfl (by show(dWRep (cRep 1 lb)).2=0;rw[hd]) (by show askIx (cS3 0 la).asks (dWRep (cRep 1 lb)).1.ctx=some 1;rw[hd];rfl) rfl]
  show(if(dWRep (cRep 1 lb)).1.err=0 then _ else _)=_
  rw[hd,if_pos rfl,ht]
  show(if(0:Int)≠0 then _ else if true=true then(endJob (cS3 0 la) ⟨0,0,false,false,[],sortM (la++(lb++[]))⟩,[]) else _)=_
  rw[if_neg (by omega),if_pos rfl,List.append_nil]
  rfl
def free:List Mch->List Bool->List Mch
 |x::l,u::us=>if u then free l us else x::free l us
 |_,_=>[]
theorem free_all(l:List Mch):free l (List.replicate l.length false)=l:=by
 induction l with
 |nil=>rfl
 |cons x l ih=>simp[List.replicate,free,ih]
theorem free_set:∀(l:List Mch) (us:List Bool) (k:Nat) (hk:k<l.length) (_:us[k]?=some false),(free l us).Perm (l[k]::free l (us.set k true))
 |x::l,u::us,0,_,h=>by
  have hu:u=false:=by simpa using h
  subst hu
  simp[free]
 |x::l,u::us,k+1,hk,h=>by
  have ih:=free_set l us k (by simpa using hk) (by simpa using h)
  cases u with
  |true=>simpa [free] using ih
  |false=>
   simp only[free,List.set_cons_succ,List.getElem_cons_succ]
   exact(List.Perm.cons x ih).trans (List.Perm.swap _ _ _)
 |x::l,[],k,_,h=>by simp at h
theorem free_mem:∀(l:List Mch) (us:List Bool) (x:Mch),x∈free l us->∃k,∃hk:k<l.length,us[k]?=some false/\l[k]=x
 |y::l,u::us,x,h=>by
  cases u with
  |true=>
   obtain⟨k,hk,h1,h2⟩:=free_mem l us x (by simpa [free] using h)
   exact⟨k+1,by simpa using hk,by simpa using h1,by simpa using h2⟩
  |false=>
   simp only[free] at h
   rcases List.mem_cons.1 h with e|e
   ·exact⟨0,by simp,rfl,by simpa using e.symm⟩
   ·obtain⟨k,hk,h1,h2⟩:=free_mem l us x e
    exact⟨k+1,by simpa using hk,by simpa using h1,by simpa using h2⟩
 |[],us,x,h=>by cases us<;>simp[free] at h
 |y::l,[],x,h=>by simp[free] at h
theorem sortM_self(l:List Mch):(sortM l).Perm l:=List.mergeSort_perm l mLe
theorem sortM_sd(l:List Mch):mSd (sortM l):=List.pairwise_mergeSort (fun a b c=>mLe_tr a b c) mLe_tot l
theorem sortM_len(l:List Mch):(sortM l).length=l.length:=(sortM_self l).length_eq
structure FndI(l:List Mch)(m:List Mch)(us:List Bool)(i:Nat):Prop where
 len:us.length=l.length
 perm:(free l us).Perm (m.drop i)
theorem FndI.zero{l m:List Mch}(h:m.Perm l):FndI l m (List.replicate l.length false) 0:=⟨by simp,by rw[free_all];exact h.symm⟩
theorem FndI.next{l m:List Mch}{us:List Bool}{i k:Nat}(h:FndI l m us i)(hi:i<m.length)(hk:k<l.length)(hu:us[k]?=some false)(e:l[k]=m[i]):FndI l m (us.set k true) (i+1):=by
 refine⟨by rw[List.length_set];exact h.len, ?_⟩
 have h1:=(free_set l us k hk hu).symm.trans h.perm
 rw[List.drop_eq_getElem_cons hi,e] at h1
 exact h1.cons_inv
theorem FndI.some{l m:List Mch}{us:List Bool}{i:Nat}(h:FndI l m us i)(hi:i<m.length)(hno:∀k (hk:k<l.length),us[k]?=some false->l[k]≠m[i]):False:=by
 have:m[i]∈free l us:=h.perm.symm.subset (by rw[List.drop_eq_getElem_cons hi];exact List.mem_cons_self)
 obtain⟨k,hk,h1,h2⟩:=free_mem l us _ this
 exact hno k hk h1 h2
end Go.Proofs.YtdiljpdohmeceaaGreat.co
