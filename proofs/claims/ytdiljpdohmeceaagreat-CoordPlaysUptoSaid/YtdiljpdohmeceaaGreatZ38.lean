/- Words and walks that this claim rests on: proved lemmas alone. -/
import Derived.Test.YtdiljpdohmeceaaGreatZ35
set_option maxHeartbeats 16000000
set_option maxRecDepth 100000
namespace Go.Proofs.YtdiljpdohmeceaaGreat.co
open Go.RowKit H O opk frame wir
open cr (RLay RsSt RNewJ RGrew Dis)
def keyS(s:Cs)(key:ByteArray)(j:Job):Cs:=if 1<=key.size/\key.size<=64 then gives s j else s
theorem PInv.key{cf:Cfg}{s:Cs}{k:Nat}{key:ByteArray}{j:Job}(h:PInv cf s k)(h1:1<=j.kind/\j.kind<=4)(h2:j.key=key)(h3:j.text=[]):PInv cf (keyS s key j) (k+1):=by
 unfold keyS
 split
 ·rename_i hk
  exact h.gives (j:=j) ⟨h1,fun _=>by rw[h2];exact hk,by rw[h3];exact⟨by simp,fun x hx=>by simp at hx⟩⟩ (fun _=>h3)
 ·exact h.le (by omega)
theorem PInv.put{cf:Cfg}{s:Cs}{k:Nat}{key:ByteArray}{xs:List Int}(h:PInv cf s k)(hw:Wf xs):PInv cf (putR s key xs).2.2 (k+1):=by
 unfold putR
 split
 ·rename_i hk
  split
  ·rename_i ht
   exact h.gives (j:=jPut key xs) ⟨by show 1<=1/\1<=4;omega,fun _=>hk,ht,hw⟩ (fun e=>by cases e)
  ·exact h.le (by omega)
 ·exact h.le (by omega)
theorem Played.refl{U:List Nat}{w w1:World}{P:Nat}{L:Lay}{M:RLay}{cf:Cfg}{s:Cs}{WV:Value}{ms:List Msg}(h:PairW U w P L M cf s WV ms)(k:Kp [] w w1):Played U P L M cf WV s ms w w1:=
 ⟨L,M,WV,h.kp0 k,k.mono (by simp),fun x hx=> .inl hx⟩
theorem cr.RsSt.id{U:List Nat}{w:World}{L:RLay}{cf:Cfg}{s:Cs}(h:RsSt U w L cf s):w.cell? ⟨L.b,0,none⟩=some (.int .i64 (cf.id:Int)):=by
 obtain⟨κ,VS,VW,VL,VA,VD,h⟩:=h
 exact bkc h.hd 0 rfl
theorem does_none(U:List Nat)(w:World)(P:Nat)(L:Lay)(M:RLay)(cf:Cfg)(s:Cs)(WV:Value)(ms:List Msg)(k:Nat)(kd an er hi wh fr:Int)(key:ByteArray)(BV MV:Value)(h:PairW U w P L M cf s WV ms)(inv:PInv cf s k)(hk:k<=10000)(hkd:kd<1\/7<kd):
 Calls Tryz.prog 20 #[.pointer (some ⟨P,0,none⟩),.agg #[.int .i64 kd,.int .i64 an,.int .i64 er,.int .i64 hi,.int .i64 wh,.int .i64 fr,.string key,BV,MV]] w fun e w'=>e= .returned (.bool true)/\Played U P L M cf WV s ms w w':=by
 obtain⟨W,hW⟩:∃W,w.alloc (actObj kd an er hi wh fr key BV MV)=W:=⟨_,rfl⟩
 have kW:Kp [] w W:=by rw[<-hW];exact(Kp.refl [] w).alloc _
 have hb:W.heap[w.heap.size]?=some (actObj kd an er hi wh fr key BV MV):=by rw[<-hW];exact heap_alloc_new w _
 have a0:=bkc hb 0 rfl
 have hPW:=h.prs.kp (U2:=U) kW (by simp) (by simp) (fun x hx=> .inl hx)
 have p0:=bkc hPW.pr.hd 0 rfl
 have p1:=bkc hPW.pr.hd 1 rfl
 have hdon:=inv.don
 have hjob:=inv.job
 obtain⟨nj,hnj⟩:∃nj,s.jobs.length=nj:=⟨_,rfl⟩
 have HA:As (∀wX,Kp [] W wX->Calls Tryz.prog 10 #[.pointer (some ⟨L.b,0,none⟩)] wX (fun e w'=>e= .returned (.int .i64 (nj:Int))/\w'=wX)):=⟨fun wX kX=>by
  have hX:=hPW.kp (U2:=U) kX (by simp) (by simp) (fun x hx=> .inl hx)
  rw[<-hnj]
  exact left_any _ wX L cf s hX.pr.c⟩
 have HB:As (∀wX,Kp [] W wX->Calls Tryz.prog 69 #[.pointer (some ⟨M.b,0,none⟩)] wX (fun e w'=>e= .returned (.int .i64 (nj:Int))/\∃q,w'=wX.drewN q)):=⟨fun wX kX=>by
  have hX:=hPW.kp (U2:=U) kX (by simp) (by simp) (fun x hx=> .inl hx)
  rw[<-hnj]
  exact cr.left_any _ wX M cf s hX.pr.x (by omega)⟩
 have n1:¬kd=1:=by omega
 have n2:¬kd=2:=by omega
 have n3:¬kd=3:=by omega
 have n4:¬kd=4:=by omega
 have n5:¬kd=5:=by omega
 have n6:¬kd=6:=by omega
 have n7:¬kd=7:=by omega
 have HH:=As.mk h
 have HKW:=As.mk kW
 clear hkd hnj hdon hjob hb h inv hPW kW
 unfold actObj at hW
 go_enter Tryz.func20,Tryz.ntmps20
 go_upto_region 33 with fail
 try rw[hW]
 clear hW
 go_quiet (first
  |(go_at_call 10;refine Calls.quiet_of_same (HA.out _ (by first|exact Kp.refl _ _|exact(Kp.refl [] W).drewN _)))
  |(go_at_call 69;refine Calls.quiet_of (HB.out _ (by first|exact Kp.refl _ _|exact(Kp.refl [] W).drewN _))))
 go_wp2_with fail
 go_ret
 exact⟨rfl,Played.refl HH.out (HKW.out.drewN _)⟩
theorem does_zero(U:List Nat)(w:World)(P:Nat)(L:Lay)(M:RLay)(cf:Cfg)(s:Cs)(WV:Value)(an er hi wh fr:Int)(key:ByteArray)(BV MV:Value)(h:PairW U w P L M cf s WV []):
 Calls Tryz.prog 20 #[.pointer (some ⟨P,0,none⟩),.agg #[.int .i64 6,.int .i64 an,.int .i64 er,.int .i64 hi,.int .i64 wh,.int .i64 fr,.string key,BV,MV]] w fun e w'=>e= .returned (.bool true)/\Played U P L M cf WV s [] w w':=by
 obtain⟨W,hW⟩:∃W,w.alloc (actObj 6 an er hi wh fr key BV MV)=W:=⟨_,rfl⟩
 have kW:Kp [] w W:=by rw[<-hW];exact(Kp.refl [] w).alloc _
 have hb:W.heap[w.heap.size]?=some (actObj 6 an er hi wh fr key BV MV):=by rw[<-hW];exact heap_alloc_new w _
 have a0:=bkc hb 0 rfl
 have hPW:=h.prs.kp (U2:=U) kW (by simp) (by simp) (fun x hx=> .inl hx)
 obtain⟨A,c,rfl,_⟩:=h.way.form
 have p2:W.cell? ⟨P,2,none⟩=some (.slice A 0 c):=bkc hPW.pr.hd 2 rfl
 have HP:As (∀w',Kp [] W w'->Played U P L M cf (.slice A 0 c) s [] w w'):=⟨fun w' k=>Played.refl h (kW.trans k (by simp))⟩
 clear hb h hPW kW
 unfold actObj at hW
 go_enter Tryz.func20,Tryz.ntmps20
 go_wp2_with fail
 go_ret
 exact⟨rfl,HP.out _ (by first|exact Kp.refl _ _|exact(Kp.refl [] W).drewN _|(rw[hW];exact Kp.refl _ _))⟩
theorem does_raw(U:List Nat)(w:World)(P:Nat)(L:Lay)(M:RLay)(cf:Cfg)(s:Cs)(WV:Value)(ms:List Msg)(k:Nat)(an er hi wh fr:Int)(key:ByteArray)(A:Option Addr)(n c:Nat)(xs:List Int)(MV:Value)(h:PairW U w P L M cf s WV ms)(inv:PInv cf s k)(hk:k<=10000)(h2:cf.shards.length<=2)(hms:ms.length<=60)(hn:xs.length=n)(hd:BSl (S0 P L M U) w (.slice A n c) xs)(hw:Wf xs)(hm:n<=40000):
 Calls Tryz.prog 20 #[.pointer (some ⟨P,0,none⟩),.agg #[.int .i64 7,.int .i64 an,.int .i64 er,.int .i64 hi,.int .i64 wh,.int .i64 fr,.string key,.slice A n c,MV]] w fun e w'=>e= .returned (.bool true)/\Played U P L M cf WV (co.hear cf s ⟨fr,cf.id,xs⟩).1 (wayN ms (co.hear cf s ⟨fr,cf.id,xs⟩).2) w w':=by
 obtain⟨W,hW⟩:∃W,w.alloc (actObj 7 an er hi wh fr key (.slice A n c) MV)=W:=⟨_,rfl⟩
 have kW:Kp [] w W:=by rw[<-hW];exact(Kp.refl [] w).alloc _
 have hb:W.heap[w.heap.size]?=some (actObj 7 an er hi wh fr key (.slice A n c) MV):=by rw[<-hW];exact heap_alloc_new w _
 have a0:=bkc hb 0 rfl
 have a5:W.cell? ⟨w.heap.size,5,none⟩=some (.int .i64 fr):=bkc hb 5 rfl
 have a7:W.cell? ⟨w.heap.size,7,none⟩=some (.slice A n c):=bkc hb 7 rfl
 obtain⟨id,hid⟩:∃x:Int,(cf.id:Int)=x:=⟨_,rfl⟩
 have hPW:=h.kp0 kW
 have p1:=bkc hPW.pr.hd 1 rfl
 have m0:W.cell? ⟨M.b,0,none⟩=some (.int .i64 id):=by rw[<-hid];exact cr.RsSt.id hPW.pr.x
 obtain⟨r,hr⟩:∃r,co.hear cf s ⟨fr,cf.id,xs⟩=r:=⟨_,rfl⟩
 rw[hr]
 have HE:As (∀wX,Kp [] W wX->Calls Tryz.prog 68 #[.pointer (some ⟨P,0,none⟩),.agg #[.int .i64 fr,.int .i64 id,.slice A n c]] wX fun e w'=>e= .returned (.bool true)/\As (Played U P L M cf WV r.1 (wayN ms r.2) w w')):=⟨fun wX kX=>by
  have k0X:=kW.trans kX (by simp)
  have hh:=hears_any U wX P L M cf s WV ms k fr cf.id xs A n c (h.kp0 k0X) inv hk h2 hms hn (hd.kp (S2:=S0 P L M U) k0X (by simp) (fun x hx=> .inl hx)) hw hm
  rw[hr,hid] at hh
  refine hh.mono ?_
  rintro e w' ⟨rfl,L1,M1,WV1,r1,r2,r3⟩
  exact⟨rfl,⟨L1,M1,WV1,r1,(k0X.mono (by simp)).trans r2 (fun x hx=> .inl hx),fun x hx=>(r3 x hx).imp (fun e=>e) (fun e=>Nat.le_trans k0X.size e)⟩⟩⟩
 clear hr hid hb h inv hPW hd hn hw hm
 unfold actObj at hW
 go_enter Tryz.func20,Tryz.ntmps20
 go_upto_region 32 with fail
 try rw[hW]
 clear hW
 go_cut [4] from 199 to 212 (fun v4 wx=>v4= .bool true/\As (Played U P L M cf WV r.1 (wayN ms r.2) w wx))
 case first=>
  go_region_law (go_simp;go_at_call 68;refine(HE.out _ (by first|exact Kp.refl _ _|exact(Kp.refl [] W).drewN _)).mono ?_;rintro e w6 ⟨rfl,HQ⟩)
  all_goals
   go_wp2_with fail
   go_meet
   exact⟨rfl,HQ⟩
 case rest=>
  obtain⟨rfl,HQ⟩:=hcut
  go_wp2_with fail
  go_ret
  exact⟨rfl,HQ.out⟩
end Go.Proofs.YtdiljpdohmeceaaGreat.co
