/- Words and walks that this claim rests on: proved lemmas alone. -/
import Derived.Test.YtdiljpdohmeceaaGreatZ44
import Derived.Test.YtdiljpdohmeceaaGreatZ45
import Derived.Test.YtdiljpdohmeceaaGreatZ46
import Derived.Test.YtdiljpdohmeceaaGreatZ47
namespace Go.Proofs.YtdiljpdohmeceaaGreat.co
open Go.RowKit H O opk frame wir
open cr (RLay RsSt RNewJ RGrew Dis RDone)
theorem PInv.done{cf:Cfg}{s:Cs}{k:Nat}(h:PInv cf s k):PInv cf {s with done:=[]} k:=
 ⟨⟨h.ok.cfg,h.ok.wlen,h.ok.whom,h.ok.jobs,h.ok.asks,h.ok.none,h.ok.few⟩,h.wt,⟨h.ho.ms0,h.ho.one,h.ho.big⟩,h.dis,h.fr,h.txt,h.two,Nat.zero_le _,h.job,h.ctx⟩
structure CplI(w:World)(cf:Cfg)(P Lb Mb i:Nat)(wr:World):Prop where
 st:∃s L M WV ms,L.b=Lb/\M.b=Mb/\PairW [] wr P L M cf s WV ms/\PInv cf s i/\ms.length<=60/\(∀m∈ms,FrOk m.data)/\(∀x∈P::(L.all++(M.all++WV.ownBlock.toList)),w.heap.size<=x)
 kp:Kp [] w wr
theorem CplI.cells{w wr:World}{cf:Cfg}{P Lb Mb i:Nat}(h:CplI w cf P Lb Mb i wr):wr.cell? ⟨P,0,none⟩=some (.pointer (some ⟨Lb,0,none⟩))/\wr.cell? ⟨P,1,none⟩=some (.pointer (some ⟨Mb,0,none⟩)):=by
 obtain⟨s,L,M,WV,ms,rfl,rfl,h1,_⟩:=h.st
 exact⟨bkc h1.pr.hd 0 rfl,bkc h1.pr.hd 1 rfl⟩
theorem CplI.kp0{w wr w1:World}{cf:Cfg}{P Lb Mb i:Nat}(h:CplI w cf P Lb Mb i wr)(k:Kp [] wr w1):CplI w cf P Lb Mb i w1:=by
 obtain⟨s,L,M,WV,ms,e1,e2,h1,h2⟩:=h.st
 exact⟨⟨s,L,M,WV,ms,e1,e2,h1.kp0 k,h2⟩,h.kp.trans k (by simp)⟩
theorem CplI.start{w w1:World}{id pat tr P:Nat}{L:Lay}{M:RLay}(ok:CfgOk (lCfg id pat tr))(hp:∀U,(∀x∈U,x<w.heap.size)->PairP U w1 P L M (lCfg id pat tr) (newCs 2) (newCs 2) (.slice none 0 0))(hlo:(∀x∈P::(L.all++M.all),w.heap.size<=x)/\Kp [] w w1):CplI w (lCfg id pat tr) P L.b M.b 0 w1:=
 ⟨⟨newCs 2,L,M,.slice none 0 0,[],rfl,rfl,⟨hp [] (by simp),WayI.nil _ _⟩,PInv.new ok,by simp,by simp,fun x hx=>hlo.1 x (by simpa [Value.ownBlock] using hx)⟩,hlo.2⟩
theorem CplI.does{w wr:World}{cf:Cfg}{P Lb Mb i:Nat}(h:CplI w cf P Lb Mb i wr)(x:ActV)(A:Option Addr)(c:Nat)(B:Option Addr)(d nB nL:Nat)(hnB:x.b.length=nB)(hnL:x.l.length=nL)(hb:Rd w A (iv .u8 x.b))(hc:nB<=c/\c<=9223372036854775807/\(A=none->c=0))(hl:Rd w B (mv x.l))(hw:Wf x.b)(hz:actSize x<=6003)(hi:i<=9000)(h2:cf.shards.length<=2):
 Calls Tryz.prog 20 #[.pointer (some ⟨P,0,none⟩),.agg #[.int .i64 x.kind,.int .i64 x.n,.int .i64 x.err,.int .i64 x.hint,.int .i64 x.what,.int .i64 x.frm,.string x.key,.slice A nB c,.slice B nL d]] wr fun e w'=>∃Lb' Mb',e= .returned (.bool true)/\w'.cell? ⟨P,0,none⟩=some (.pointer (some ⟨Lb',0,none⟩))/\w'.cell? ⟨P,1,none⟩=some (.pointer (some ⟨Mb',0,none⟩))/\As (CplI w cf P Lb' Mb' (i+1) w'):=by
 subst hnB hnL
 obtain⟨s,L,M,WV,ms,e1,e2,h1,inv,h3,h4,h5⟩:=h.st
 have hb':BSl (S0 P L M []) wr (.slice A x.b.length c) x.b:=by
  refine⟨A,c,rfl,fun j v hv=> ?_,hc⟩
  obtain⟨a,rfl,hcell⟩:=hb j v hv
  have hlt:=World.block_lt_of_cell? w _ hcell
  rw[add_block] at hlt
  refine⟨a,rfl,fun hm=> ?_,h.kp.cell hcell (by simp)⟩
  have:=h5 a.block (by
   unfold S0 at hm
   simp only[List.mem_cons,List.mem_append,List.append_nil] at hm⊢
   rcases hm with e|e|e
   ·exact .inl e
   ·exact .inr (.inl e)
   ·exact .inr (.inr (.inl e)))
  omega
 refine(does_any [] wr P L M cf s WV ms i x A c B d h1 inv hi h2 h3 h4 hb' (h.kp.rd_new hl (by simp)) hw hz).mono ?_
 rintro e w' ⟨rfl,s',ms',⟨L',M',WV',p,k,g⟩,inv',l',f'⟩
 have hs:=h.kp.size
 have hN:CplI w cf P L'.b M'.b (i+1) w':=⟨⟨s',L',M',WV',ms',rfl,rfl,p,inv',l',f',fun x hx=>by
  rcases List.mem_cons.1 hx with e|e
  ·exact h5 x (by simp[e])
  ·rcases g x e with e2|e2
   ·exact h5 x (List.mem_cons_of_mem _ e2)
   ·omega⟩,h.kp.trans k (fun x hx=> .inr (h5 x hx))⟩
 exact⟨L'.b,M'.b,rfl,hN.cells.1,hN.cells.2,⟨hN⟩⟩
structure CplD(w:World)(cf:Cfg)(P Lb Mb i:Nat)(v:Value)(wr:World):Prop where
 st:∃s L M WV ms,L.b=Lb/\M.b=Mb/\PrS [] wr P L M cf {s with done:=[]} s WV ms/\PInv cf s i/\ms.length<=60/\(∀m∈ms,FrOk m.data)/\(∀x∈P::(L.all++(M.all++WV.ownBlock.toList)),w.heap.size<=x)/\DoneAt M.all wr v v.ownBlock s.done/\(∀g,v.ownBlock=some g->g∉M.all)
 kp:Kp [] w wr
theorem CplI.done{w wr wX:World}{cf:Cfg}{P Lb Mb i:Nat}(h:CplI w cf P Lb Mb i wr)(kX:Kp [] wr wX):
 Calls Tryz.prog 18 #[.pointer (some ⟨Lb,0,none⟩)] wX fun e w2=>∃v,e= .returned v/\w2.cell? ⟨P,0,none⟩=some (.pointer (some ⟨Lb,0,none⟩))/\w2.cell? ⟨P,1,none⟩=some (.pointer (some ⟨Mb,0,none⟩))/\As (CplD w cf P Lb Mb i v w2):=by
 obtain⟨⟨s,L,M,WV,ms,rfl,rfl,h1,inv,h3,h4,h5⟩,kp⟩:=h.kp0 kX
 refine(done_any _ wX L cf s h1.pr.c).mono ?_
 rintro e w2 ⟨v,L',rfl,q1,q2,q3,q4,q5⟩
 have hp:=h1.prs.prog q1 q2 q5
 have hs:=kp.size
 refine⟨v,rfl,by rw[<-q2.1];exact bkc hp.pr.hd 0 rfl,bkc hp.pr.hd 1 rfl,⟨⟨s,L',M,WV,ms,q2.1,rfl,hp,inv,h3,h4,fun x hx=> ?_,q3.kp (Kp.refl [] w2) (by simp) (by simp) (fun x hx=> .inl (by simp[hx])),fun g hg hm=>q4 g hg (by simp[hm])⟩,kp.trans q5 (fun x hx=> .inr (h5 x (by simp[hx])))⟩⟩
 simp only[List.mem_cons,List.mem_append] at hx
 rcases hx with e|e|e
 ·exact h5 x (by simp[e])
 ·rcases q2.2 x e with e2|e2
  ·exact h5 x (by simp[e2])
  ·omega
 ·exact h5 x (by simp only[List.mem_cons,List.mem_append];exact .inr (.inr e))
structure CplE(w:World)(cf:Cfg)(P Lb Mb i:Nat)(v v2:Value)(wr:World):Prop where
 st:CplI w cf P Lb Mb i wr
 eq:∃l,l.length<=i/\DoneAt [] wr v v.ownBlock l/\RDone [] wr v2 v2.ownBlock l
theorem CplD.done{w wr wX:World}{cf:Cfg}{P Lb Mb i:Nat}{v:Value}(h:CplD w cf P Lb Mb i v wr)(kX:Kp [] wr wX):
 Calls Tryz.prog 22 #[.pointer (some ⟨Mb,0,none⟩)] wX fun e w2=>∃v2,e= .returned v2/\w2.cell? ⟨P,0,none⟩=some (.pointer (some ⟨Lb,0,none⟩))/\w2.cell? ⟨P,1,none⟩=some (.pointer (some ⟨Mb,0,none⟩))/\As (CplE w cf P Lb Mb i v v2 w2):=by
 obtain⟨⟨s,L,M,WV,ms,rfl,rfl,h1,inv,h3,h4,h5,h6,h7⟩,kp⟩:=h
 have hX:=h1.kp (U2:=[]) kX (by simp) (by simp) (by simp)
 refine(cr.done_any _ wX M cf s hX.pr.x).mono ?_
 rintro e w2 ⟨v2,M',rfl,q1,q2,q3,q4,q5⟩
 have hp:=hX.docu q1 q2 q5
 have kpX:=kp.trans kX (by simp)
 have hs:=kpX.size
 have hI:CplI w cf P L.b M.b i w2:=⟨⟨_,L,M',WV,ms,rfl,q2.1,hp.pair,inv.done,h3,h4,fun x hx=>by
  simp only[List.mem_cons,List.mem_append] at hx
  rcases hx with e|e|e|e
  ·exact h5 x (by simp[e])
  ·exact h5 x (by simp[e])
  ·rcases q2.2 x e with e2|e2
   ·exact h5 x (by simp[e2])
   ·omega
  ·exact h5 x (by simp only[List.mem_cons,List.mem_append];exact .inr (.inr (.inr e)))⟩,kpX.trans q5 (fun x hx=> .inr (h5 x (by simp[hx])))⟩
 have hd:=inv.don
 have hj:=inv.job
 exact⟨v2,rfl,hI.cells.1,hI.cells.2,⟨hI,s.done,by omega,(h6.kp (S2:=M.all) kX (by simp) (by simp) (fun x hx=> .inl hx)).kp q5 h7 (fun x hx=> .inl hx) (by simp),q3.kp (Kp.refl [] w2) (by simp) (by simp) (by simp)⟩⟩
theorem CplE.results{w wr wX:World}{cf:Cfg}{P Lb Mb i:Nat}{v v2:Value}(h:CplE w cf P Lb Mb i v v2 wr)(kX:Kp [] wr wX)(hi:i<=9000):
 Calls Tryz.prog 21 #[v,v2] wX fun e w2=>e= .returned (.bool true)/\w2.cell? ⟨P,0,none⟩=some (.pointer (some ⟨Lb,0,none⟩))/\w2.cell? ⟨P,1,none⟩=some (.pointer (some ⟨Mb,0,none⟩))/\As (CplI w cf P Lb Mb i w2):=by
 obtain⟨l,hl,h1,h2⟩:=h.eq
 refine(results_any [] [] wX v v2 l _ rfl (h1.kp kX (by simp) (by simp) (by simp)) (h2.kp kX (by simp) (by simp) (by simp)) (by omega)).mono ?_
 rintro e w2 ⟨rfl,k2⟩
 have hI:=h.st.kp0 (kX.trans k2 (by simp))
 exact⟨rfl,hI.cells.1,hI.cells.2,⟨hI⟩⟩
end Go.Proofs.YtdiljpdohmeceaaGreat.co
