/- Words and walks that this claim rests on: proved lemmas alone. -/
import Derived.Test.YtdiljpdohmeceaaGreatZ37
import Derived.Test.YtdiljpdohmeceaaGreatZ42
import Derived.Test.YtdiljpdohmeceaaGreatZ45
import Derived.Test.YtdiljpdohmeceaaGreatZ43
namespace Go.Proofs.YtdiljpdohmeceaaGreat.co
open Go.RowKit H O opk frame wir
open cr (RLay RsSt RNewJ RGrew Dis RDone)
structure CfI(w:World)(U:List Nat)(P Lb Mb:Nat)(s:Cs)(ms:List Msg)(wr:World):Prop where
 st:∃L M WV k,L.b=Lb/\M.b=Mb/\PairW U wr P L M cfC s WV ms/\PInv cfC s k/\k<=100/\(∀x∈P::(L.all++(M.all++WV.ownBlock.toList)),w.heap.size<=x/\x∉U)
 kp:Kp [] w wr
theorem CfI.cells{w wr:World}{U:List Nat}{P Lb Mb:Nat}{s:Cs}{ms:List Msg}(h:CfI w U P Lb Mb s ms wr):wr.cell? ⟨P,0,none⟩=some (.pointer (some ⟨Lb,0,none⟩))/\wr.cell? ⟨P,1,none⟩=some (.pointer (some ⟨Mb,0,none⟩))/\∃A c,wr.cell? ⟨P,2,none⟩=some (.slice A ms.length c):=by
 obtain⟨L,M,WV,k,rfl,rfl,h1,_⟩:=h.st
 obtain⟨A,c,rfl,_⟩:=h1.way.form
 exact⟨bkc h1.pr.hd 0 rfl,bkc h1.pr.hd 1 rfl,A,c,bkc h1.pr.hd 2 rfl⟩
theorem CfI.kp0{w wr w1:World}{U:List Nat}{P Lb Mb:Nat}{s:Cs}{ms:List Msg}(h:CfI w U P Lb Mb s ms wr)(k:Kp [] wr w1):CfI w U P Lb Mb s ms w1:=by
 obtain⟨L,M,WV,n,e1,e2,h1,h2⟩:=h.st
 exact⟨⟨L,M,WV,n,e1,e2,h1.kp0 k,h2⟩,h.kp.trans k (by simp)⟩
theorem CfI.own{w wr w1:World}{P Lb Mb g:Nat}{s:Cs}{ms:List Msg}(h:CfI w [] P Lb Mb s ms wr)(k:Kp [] wr w1)(hg:wr.heap.size<=g/\g<w1.heap.size):CfI w [g] P Lb Mb s ms w1:=by
 obtain⟨L,M,WV,n,e1,e2,h1,h2,h3,h4⟩:=h.st
 have hlt:=h1.prs.lt
 refine⟨⟨L,M,WV,n,e1,e2,(h1.prs.kp (U2:=[g]) k (by simp) (by simp) (fun x hx=> .inr (by simp at hx;subst hx;exact hg))).pair,h2,h3,fun x hx=>⟨(h4 x hx).1,fun hm=> ?_⟩⟩,h.kp.trans k (by simp)⟩
 have hxl:=hlt x (by
  unfold S0
  simp only[List.mem_cons,List.mem_append] at hx⊢
  rcases hx with e|e|e|e
  ·exact .inr (.inl e)
  ·exact .inr (.inr (.inl e))
  ·exact .inr (.inr (.inr (.inl e)))
  ·exact .inl e)
 simp at hm
 omega
theorem CfI.start{w w1:World}{P:Nat}{L:Lay}{M:RLay}(hp:∀U,(∀x∈U,x<w.heap.size)->PairP U w1 P L M (lCfg 9 50 3) (newCs 2) (newCs 2) (.slice none 0 0))(hlo:(∀x∈P::(L.all++M.all),w.heap.size<=x)/\Kp [] w w1):CfI w [] P L.b M.b (newCs 2) [] w1:=
 ⟨⟨L,M,.slice none 0 0,0,rfl,rfl,⟨hp [] (by simp),WayI.nil _ _⟩,PInv.new (lCfg_ok (id:=9) (pat:=50) (tr:=3) (by decide) (by decide) (by decide)),by omega,fun x hx=>⟨hlo.1 x (by simpa [Value.ownBlock] using hx),by simp⟩⟩,hlo.2⟩
def CfN(w:World)(U:List Nat)(P:Nat)(s:Cs)(ms:List Msg)(wr:World)(e:Ending)(w':World):Prop:=
 e= .returned (.bool true)/\∃Lb Mb A c,w'.cell? ⟨P,0,none⟩=some (.pointer (some ⟨Lb,0,none⟩))/\w'.cell? ⟨P,1,none⟩=some (.pointer (some ⟨Mb,0,none⟩))/\w'.cell? ⟨P,2,none⟩=some (.slice A ms.length c)/\As (CfI w U P Lb Mb s ms w')/\As (∀g∈U,∀a v,a.block=g->wr.cell? a=some v->w'.cell? a=some v)
theorem CfN.mk{w wr wX w':World}{U:List Nat}{P:Nat}{L:Lay}{M:RLay}{WV:Value}{s':Cs}{ms':List Msg}{k:Nat}(kp:Kp [] w wr)(kX:Kp [] wr wX)(hU:∀x∈U,x<wX.heap.size)(h5:∀x∈P::(L.all++(M.all++WV.ownBlock.toList)),w.heap.size<=x/\x∉U)(p:Played U P L M cfC WV s' ms' wX w')(i:PInv cfC s' k)(hk:k<=100):CfN w U P s' ms' wr (.returned (.bool true)) w':=by
 obtain⟨L',M',WV',p,kk,g⟩:=p
 have kpX:=kp.trans kX (by simp)
 have hs:=kpX.size
 have hN:CfI w U P L'.b M'.b s' ms' w':=⟨⟨L',M',WV',k,rfl,rfl,p,i,hk,fun x hx=>by
  rcases List.mem_cons.1 hx with e|e
  ·exact h5 x (by simp[e])
  ·rcases g x e with e2|e2
   ·exact h5 x (List.mem_cons_of_mem _ e2)
   ·exact⟨by omega,fun hm=>by have:=hU x hm;omega⟩⟩,kpX.trans kk (fun x hx=> .inr (h5 x hx).1)⟩
 obtain⟨c0,c1,A,c,c2⟩:=hN.cells
 refine⟨rfl,L'.b,M'.b,A,c,c0,c1,c2,⟨hN⟩,⟨fun g hg a v ha hv=> ?_⟩⟩
 exact kk.cell (kX.cell hv (by simp)) (fun hm=>(h5 a.block hm).2 (by rw[ha];exact hg))
theorem cS1_eq:findS (newCs 2) [120]=cS1:=by
 rw[findS,if_pos (by decide)]
 rfl
theorem CfI.find{w wr:World}{P Lb Mb:Nat}(h:CfI w [] P Lb Mb (newCs 2) [] wr)(key:ByteArray)(MV:Value)(b:Nat)(hb:b=wr.heap.size):
 Calls Tryz.prog 20 #[.pointer (some ⟨P,0,none⟩),.agg #[.int .i64 4,.int .i64 0,.int .i64 0,.int .i64 0,.int .i64 0,.int .i64 0,.string key,.slice (some ⟨b,0,none⟩) 1 1,MV]] (wr.alloc (.cells #[.int .u8 120] 5 (1,2))) (CfN w [] P cS1 [] wr):=by
 subst hb
 obtain⟨L,M,WV,k,e1,e2,h1,inv,hk,h5⟩:=h.st
 have kX:Kp [] wr (wr.alloc (.cells #[.int .u8 120] 5 (1,2))):=(Kp.refl [] wr).alloc _
 have hlt:=h1.lt
 have hd:BSl (S0 P L M []) (wr.alloc (.cells #[.int .u8 120] 5 (1,2))) (.slice (some ⟨wr.heap.size,0,none⟩) 1 1) [120]:=by
  exact⟨some ⟨wr.heap.size,0,none⟩,1,rfl,rds_mark (S:=S0 P L M []) wr (iv .u8 [120]) 5 (1,2) hlt,Nat.le_refl _,by omega,by simp⟩
 have hkk:k<=100/\PInv cfC (newCs 2) 0:=⟨hk,PInv.new (lCfg_ok (id:=9) (pat:=50) (tr:=3) (by decide) (by decide) (by decide))⟩
 refine(does_find [] _ P L M cfC (newCs 2) WV [] 0 0 0 0 0 0 key _ 1 1 [120] MV (h1.kp0 kX) hkk.2 (by omega) rfl hd (fun x hx=>by simp at hx;omega) (by omega)).mono ?_
 rintro e w' ⟨rfl,p⟩
 rw[cS1_eq] at p
 have i1:=hkk.2.find (xs:=[120]) (fun x hx=>by simp at hx;omega)
 rw[cS1_eq] at i1
 exact CfN.mk h.kp kX (by simp) h5 p i1 (by omega)
theorem cPInv:PInv cfC cS1 1:=by
 have h0:PInv cfC (newCs 2) 0:=PInv.new (lCfg_ok (id:=9) (pat:=50) (tr:=3) (by decide) (by decide) (by decide))
 have i1:=h0.find (xs:=[120]) (fun x hx=>by simp at hx;omega)
 rw[cS1_eq] at i1
 exact i1
theorem CfI.tick{w wr wX:World}{P Lb Mb:Nat}(h:CfI w [] P Lb Mb cS1 [] wr)(kX:Kp [] wr wX)(key:ByteArray)(BV MV:Value):
 Calls Tryz.prog 20 #[.pointer (some ⟨P,0,none⟩),.agg #[.int .i64 5,.int .i64 0,.int .i64 0,.int .i64 0,.int .i64 0,.int .i64 0,.string key,BV,MV]] wX (CfN w [] P cS2 [cM 0,cM 1] wr):=by
 obtain⟨L,M,WV,k,e1,e2,h1,inv,hk,h5⟩:=h.st
 refine(does_tick [] wX P L M cfC cS1 WV [] 1 0 0 0 0 0 key BV MV (h1.kp0 kX) cPInv (by omega) (by show 2<=2;omega) (by simp)).mono ?_
 rintro e w' ⟨rfl,p⟩
 have i2:=(cPInv.tick (by omega)).1
 rw[cTick] at p i2
 exact CfN.mk h.kp kX (by simp) h5 p i2 (by omega)
def kOf(turn:Bool)(i:Nat):Nat:=if turn then 1-i else i
def toldOf(a b:List Mch)(k:Nat):List Mch:=if k=0 then a else b
def cSt(a b:List Mch)(turn:Bool)(i:Nat):Cs:=if i=0 then cS2 else if i=1 then cS3 (kOf turn 0) (toldOf a b (kOf turn 0)) else cS4 a b
theorem cReply(a b:List Mch)(turn:Bool)(i:Nat)(hi:i<=1)(h:∀x∈toldOf a b (kOf turn i),MOk x)(hn:(toldOf a b (kOf turn i)).length<=100000)(hm:(mBytes (toldOf a b (kOf turn i))).length<=524288):replyS cfC (cSt a b turn i) (cM (kOf turn i)) 0 (-1) (mBytes (toldOf a b (kOf turn i)))=(cSt a b turn (i+1),[]):=by
 have hk:kOf turn i<=1:=by unfold kOf;split<;>omega
 unfold replyS
 rw[cReq _ hk,if_pos (ref22.wrOk_iff.2 (by show(0<=((kOf turn i+1:Nat):Int)/\((kOf turn i+1:Nat):Int)<=_)/\_/\_;omega))]
 show hear cfC (cSt a b turn i) ⟨((kOf turn i:Nat):Int),9,cRep (kOf turn i) (toldOf a b (kOf turn i))⟩=_
 rcases (by omega:i=0\/i=1) with rfl|rfl
 ·show hear cfC cS2 _=(cS3 (kOf turn 0) (toldOf a b (kOf turn 0)),[])
  exact cHear1 _ hk h hn hm
 ·have e:kOf turn 0=1-kOf turn 1:=by unfold kOf;cases turn<;>rfl
  show hear cfC (cS3 (kOf turn 0) (toldOf a b (kOf turn 0))) _=(cS4 a b,[])
  rw[e]
  refine cHear2 (kOf turn 1) hk ?_ ?_ h hn hm
  ·unfold toldOf;rcases (by omega:kOf turn 1=0\/kOf turn 1=1) with e|e<;>rw[e]<;>rfl
  ·rfl
theorem cPInv2:PInv cfC cS2 2:=by
 have i2:=(cPInv.tick (by omega)).1
 rwa[cTick] at i2
theorem cFr:∀m∈[cM 0,cM 1],FrOk m.data:=by
 have i2:=(cPInv.tick (by omega)).2.1
 rwa[cTick] at i2
theorem cIdx(k:Nat)(hk:k<=1):(bits BinOp.and IntKind.i64 (k:Int) 65535).tmod ((2:Nat):Int)=(k:Int):=by
 rcases (by omega:k=0\/k=1) with rfl|rfl<;>rfl
theorem CfI.reply{w wr wX:World}{g P Lb Mb:Nat}{a b:List Mch}{turn:Bool}{i:Nat}(h:CfI w [g] P Lb Mb (cSt a b turn i) [cM 0,cM 1] wr)(kX:Kp [] wr wX)(hi:i<=1)(key:ByteArray)(BV:Value)(A:Option Addr)(c n:Nat)(hn:(toldOf a b (kOf turn i)).length=n)(hr:Rd w A (mv (toldOf a b (kOf turn i))))(hok:∀x∈toldOf a b (kOf turn i),MOk x)(hz:mSize (toldOf a b (kOf turn i))<=6100):
 Calls Tryz.prog 20 #[.pointer (some ⟨P,0,none⟩),.agg #[.int .i64 6,.int .i64 ((kOf turn i:Nat):Int),.int .i64 0,.int .i64 (-1),.int .i64 4,.int .i64 0,.string key,BV,.slice A n c]] wX (CfN w [g] P (cSt a b turn (i+1)) [cM 0,cM 1] wr):=by
 subst hn
 obtain⟨L,M,WV,k,e1,e2,h1,inv,hk,h5⟩:=h.st
 have hkk:kOf turn i<=1:=by unfold kOf;split<;>omega
 have hml:=mBytes_len (toldOf a b (kOf turn i))
 have hll:=mSize_len (toldOf a b (kOf turn i))
 have hrep:=cReply a b turn i hi hok (by omega) (by omega)
 have hgl:=h1.prs.lt g (List.mem_append.2 (.inr (by simp[S0])))
 have hx:=cIdx _ hkk
 have h15:bits BinOp.and IntKind.i64 0 15=0:=rfl
 have hmi:[cM 0,cM 1][kOf turn i]?=some (cM (kOf turn i)):=by
  rcases (by omega:kOf turn i=0\/kOf turn i=1) with e|e<;>rw[e]<;>rfl
 have hrd:=does_reply [g] wX P L M cfC (cSt a b turn i) WV [cM 0,cM 1] k ((kOf turn i:Nat):Int) 0 (-1) 4 0 key BV (.slice A (toldOf a b (kOf turn i)).length c) (cM (kOf turn i)) (kOf turn i) (h1.kp0 kX) inv (by omega) (by show 2<=2;omega) (by simp) cFr hmi hx (mBytes (toldOf a b (kOf turn i))) (mBytes_wf _) (by omega) (fun wY kY=>
  (data_four wY 6 _ 0 (-1) 0 key BV A _ c (toldOf a b (kOf turn i)) rfl (((h.kp.trans kX (by simp)).trans kY (by simp)).rd_new hr (by simp)) (by omega)).mono (fun e w' h=>DatC.of h))
 obtain⟨i1,_,_⟩:=reply_inv (m:=cM (kOf turn i)) (er:=0) (ht:= -1) (xs:=mBytes (toldOf a b (kOf turn i))) inv (by omega)
 rw[h15,hrep] at hrd
 rw[hrep] at i1
 refine hrd.mono ?_
 rintro e w' ⟨rfl,p⟩
 have sX:=kX.size
 exact CfN.mk h.kp kX (fun x hx=>by simp at hx;subst hx;omega) h5 p i1 hk
theorem CfI.not{w wr wX:World}{U:List Nat}{P Lb Mb k:Nat}{l:List Mch}{ms:List Msg}(h:CfI w U P Lb Mb (cS3 k l) ms wr)(kX:Kp [] wr wX):
 Calls Tryz.prog 18 #[.pointer (some ⟨Lb,0,none⟩)] wX fun e w2=>∃A c,e= .returned (.slice A 0 c)/\w2.cell? ⟨P,0,none⟩=some (.pointer (some ⟨Lb,0,none⟩))/\As (Kp [] w w2)/\As (∀wY,Kp [] w2 wY->Calls Tryz.prog 10 #[.pointer (some ⟨Lb,0,none⟩)] wY fun e w'=>e= .returned (.int .i64 1)/\w'=wY):=by
 obtain⟨⟨L,M,WV,n,rfl,rfl,h1,inv,hk,h5⟩,kp⟩:=h.kp0 kX
 refine(done_any _ wX L cfC (cS3 k l) h1.pr.c).mono ?_
 rintro e w2 ⟨v,L',rfl,q1,q2,⟨vs,q3,_⟩,q4,q5⟩
 have hp:=h1.prs.prog q1 q2 q5
 obtain⟨A,c,rfl,_⟩:=own_rd q3
 refine⟨A,c,rfl,by rw[<-q2.1];exact bkc hp.pr.hd 0 rfl,⟨kp.trans q5 (fun x hx=> .inr (h5 x (by simp[hx])).1)⟩,⟨fun wY kY=> ?_⟩⟩
 have:=left_any _ wY L' cfC _ (q1.kp kY (by simp) (fun x hx=> .inl hx))
 rw[q2.1] at this
 exact this
theorem CfI.done{w wr wX:World}{U:List Nat}{P Lb Mb N:Nat}{a b:List Mch}{ms:List Msg}(h:CfI w U P Lb Mb (cS4 a b) ms wr)(kX:Kp [] wr wX)(hN:(sortM (a++b)).length=N):
 Calls Tryz.prog 18 #[.pointer (some ⟨Lb,0,none⟩)] wX fun e w2=>∃g c B d,e= .returned (.slice (some ⟨g,0,none⟩) 1 c)/\w2.cell? ⟨g,1,none⟩=some (.int .i64 0)/\w2.cell? ⟨g,5,none⟩=some (.slice B N d)/\As (Kp [] w w2/\Rd w2 B (mv (sortM (a++b)))):=by
 obtain⟨⟨L,M,WV,n,rfl,rfl,h1,inv,hk,h5⟩,kp⟩:=h.kp0 kX
 refine(done_any _ wX L cfC (cS4 a b) h1.pr.c).mono ?_
 rintro e w2 ⟨v,L',rfl,q1,q2,⟨vs,q3,_,q6⟩,q4,q5⟩
 obtain⟨g,cc,A,c,B,d,e9,hat⟩:=res_at (i:=0) (r:=cRes a b) q3 q6 rfl
 subst e9
 have h1':w2.cell? ⟨g,0*6+1,none⟩=some (.int .i64 0):=hat.c1
 have h5':=hat.c5
 rw[show(cRes a b).ms.length=N from hN] at h5'
 exact⟨g,cc,B,d,rfl,by simpa using h1',by simpa using h5',⟨kp.trans q5 (fun x hx=> .inr (h5 x (by simp[hx])).1),hat.rm⟩⟩
end Go.Proofs.YtdiljpdohmeceaaGreat.co
