/- Words and walks that this claim rests on: proved lemmas alone. -/
import Derived.Test.YtdiljpdohmeceaaGreatZ21
import Derived.Sort.WalkA
import Derived.Lib.Bytealg
set_option maxHeartbeats 16000000
set_option maxRecDepth 100000
namespace Go.Proofs.YtdiljpdohmeceaaGreat.so
open Go.RowKit Go.Sort Go.Lib H
variable {α:Type} [Inhabited α]
def MergePost(enc:α->List Value)(k:Nat)(cf:α->α->Int)(blk off:Nat)(w0:World)(a b:Nat)(d:Array α)(e:Ending)(w':World):Prop:=e= .returned (.tuple #[])/\∃f,PermIn a b d f/\SortedIn (ltOf cf) a b f/\SWK enc k w0 blk off f w'
theorem merge_most{enc:α->List Value}{k:Nat}{cf:α->α->Int}{g:Nat}{cb:Array Value}{blk off:Nat}{d0:Array α}{w0:World}(X:Srt enc k cf g cb blk off d0 w0)(cap a m b:Nat)(d:Array α)(w:World)
 (hs:d.size=d0.size) (S:SWK enc k w0 blk off d w) (ham:a+1<m) (hmb:m+1<b) (hb:b<=d.size) (s1:SortedIn (ltOf cf) a m d) (s2:SortedIn (ltOf cf) m b d)
 (ih:∀(a' m' b':Nat) (f:Array α) (wx:World),b'-a'<b-a->f.size=d.size->SWK enc k w0 blk off f wx->a'<m'->m'<b'->b'<=d.size->SortedIn (ltOf cf) a' m' f->SortedIn (ltOf cf) m' b' f->
  Calls Tryz.prog 120 #[.slice (some ⟨blk,off,none⟩) d.size cap,.int .i64 a',.int .i64 m',.int .i64 b',.func (.func g) #[] cb] wx (MergePost enc k cf blk off w0 a' b' f)):
 Calls Tryz.prog 120 #[.slice (some ⟨blk,off,none⟩) d.size cap,.int .i64 a,.int .i64 m,.int .i64 b,.func (.func g) #[] cb] w (MergePost enc k cf blk off w0 a b d):=by
 have mixed:Tryz.prog.follows Departure.mixedOrders=true:=by kernel_rfl
 have HX0:=As.mk X
 obtain⟨aE,zE,eg,hc,R,hO,hz⟩:=X
 have HC:Aside _:=hc
 have HR:Aside _:=R
 have HO:Aside _:=hO
 have S0:Aside (SWK enc k w0 blk off d w):=S
 have HSS:=As.mk (And.intro s1 s2)
 have IH:=As.mk ih
 have hsz:d.size<4611686018427387904:=by rw[hs];exact hz
 have HS:=As.mk hs
 clear S hc R hO s1 s2 hs ih
 have e1:((m:Int)-(a:Int)==1)=false:=by simp;omega
 have e2:((b:Int)-(m:Int)==1)=false:=by simp;omega
 obtain⟨mid,hmid⟩:∃mid,(a+b)/2=mid:=⟨_,rfl⟩
 have em:((a:Int)+(b:Int))/2=(mid:Int):=by omega
 have hm2:2*mid<=a+b/\a+b<=2*mid+1:=by omega
 obtain⟨s0,r0,B⟩:=Bnd.mk' a m b mid (by omega) (by omega) hm2
 obtain⟨n,hn⟩:∃n,mid+m=n:=⟨_,rfl⟩
 have en:(mid:Int)+(m:Int)=(n:Int):=by omega
 have hn1:1<=n:=by omega
 obtain⟨p,hp⟩:∃p,n-1=p:=⟨_,rfl⟩
 have ep:(n:Int)-1=(p:Int):=by omega
 have HNP:=As.mk (show mid+m-1=p by omega)
 have HN:=As.mk hn
 have HB:=As.mk B
 have b1:=B.le.2.1
 have b2:=B.le.2.2.1
 have b3:=B.le.2.2.2.1
 have b4:=B.le.2.2.2.2.1
 have b5:=B.le.2.2.2.2.2
 have hnb:n<=2*d.size:=by omega
 have HSR:As ((mid<m/\(n:Int)-(b:Int)=(s0:Int)/\r0=mid)\/(m<=mid/\s0=a/\r0=m)):=⟨by
  rcases B.sr with h|h
  ·exact .inl ⟨h.1,by omega,h.2.2⟩
  ·exact .inr h⟩
 obtain⟨dm,hdm⟩:∃dm,decide (mid<m)=dm:=⟨_,rfl⟩
 have HDM:=As.mk hdm
 clear hmid hm2 hn hp B
 go_enter Tryz.func120,Tryz.ntmps120
 go_upto_if 140 with fail
 go_cut [20,21] from 141 to 146 (fun s20 s21 wc=>s20= .int .i64 (s0:Int)/\s21= .int .i64 (r0:Int)/\w=wc)
 case first=>
  rcases HSR.out with⟨h1,h2,h3⟩|⟨h1,h2,h3⟩
  ·have hd:dm=true:=by rw[<-HDM.out];exact decide_eq_true h1
   subst hd h3
   clear h1 hdm
   go_wp2_with fail
   go_meet
   exact⟨rfl,rfl,rfl⟩
  ·have hd:dm=false:=by rw[<-HDM.out];exact decide_eq_false (by omega)
   have H2:=As.mk h2
   have H3:=As.mk h3
   subst hd
   clear h1 h2 h3 hdm
   go_wp2_with fail
   go_meet
   exact⟨by rw[H2.out],by rw[H3.out],rfl⟩
 case rest=>
  obtain⟨rfl,rfl,rfl⟩:=hcut
  clear em
  go_wp2_with fail
  go_loopg [20,21] (b-a) (fun kx s20 s21 wr=>∃(i j:Nat),s20= .int .i64 i/\s21= .int .i64 j/\i<=j/\s0<=i/\j<=r0/\j-i<=kx/\Aside (Fnd (ltOf cf) a m b mid s0 r0 i j d/\SWK enc k w0 blk off d wr))
  case atStart=>exact⟨s0,r0,rfl,rfl,HB.out.le.1,Nat.le_refl _,Nat.le_refl _,by omega,⟨Fnd.zero HB.out d,S0.out⟩⟩
  case round=>
   clear S0
   obtain⟨i,j,rfl,rfl,hij,hs0,hr0,hkx,S1⟩:=hrel
   by_cases hlt:i<j
   ·have hltz:(i:Int)<(j:Int):=by omega
    obtain⟨h,hh⟩:∃h,(i+j)/2=h:=⟨_,rfl⟩
    have eh:((i:Int)+(j:Int))/2=(h:Int):=by omega
    have h1:i<=h:=by omega
    have h2:h<j:=by omega
    have hi:=HB.out.in_ (x:=h) (by omega) (by omega)
    rw[HNP.out] at hi
    obtain⟨q,hq⟩:∃q,p-h=q:=⟨_,rfl⟩
    rw[hq] at hi
    have eq:IntKind.i64.wrap ((p:Int)-(h:Int))=(q:Int):=by have:=HNP.out;rw[IntKind.wrap_i64];omega
    have eq0:(0:Int)<=(q:Int):=by omega
    have HQ:=As.mk (show mid+m-1-h=q by rw[HNP.out];exact hq)
    have hqb:q<b:=hi.2.2.2.1
    clear hh hi hq
    obtain⟨xh,hxh⟩:∃x,d[h]! =x:=⟨_,rfl⟩
    obtain⟨xq,hxq⟩:∃x,d[q]! =x:=⟨_,rfl⟩
    have jz:(h:Int)<(d.size:Int):=by omega
    have jz1:(q:Int)<(d.size:Int):=by omega
    have lh:=S1.out.2.ld HR.out HS.out Tryz.prog h (by omega)
    have la:=S1.out.2.ld HR.out HS.out Tryz.prog q (by omega)
    rw[hxh] at lh
    rw[hxq] at la
    have hcg:=S1.out.2.cmp HC.out HS.out xq xh
    have HX:Hid (d[h]! =xh/\d[q]! =xq):=⟨hxh,hxq⟩
    clear hxh hxq
    by_cases hlv:cf xq xh<0
    ·go_wp2_with fail
     clear eh
     go_quiet_grown (first|(go_at_fn g;refine Calls.grown_of (hcg _ _)))
     go_wp2
     go_roundg (h-i)
     case measure=>omega
     case rel=>
      refine⟨i,h,rfl,rfl,by omega,hs0,by omega,Nat.le_refl _,⟨S1.out.1.down HO.out HB.out HSS.out.1 HSS.out.2 h1 h2 ?_,S1.out.2.grown nq osq⟩⟩
      rw[HQ.out,HX.out.1,HX.out.2];exact decide_eq_true hlv
    ·have hq:decide (cf xq xh<0)=false:=decide_eq_false hlv
     go_wp2_with fail
     clear eh
     go_quiet_grown (first|(go_at_fn g;refine Calls.grown_of (hcg _ _)))
     go_wp2
     go_roundg (j-(h+1))
     case measure=>omega
     case rel=>
      refine⟨h+1,j,by go_num,rfl,by omega,by omega,hr0,Nat.le_refl _,⟨S1.out.1.up HO.out HB.out HSS.out.1 HSS.out.2 h1 h2 ?_,S1.out.2.grown nq osq⟩⟩
      rw[HQ.out,HX.out.1,HX.out.2];exact decide_eq_false (by omega)
   ·obtain rfl:i=j:=by omega
    have hltz:¬(i:Int)<(i:Int):=by omega
    obtain⟨en',hen⟩:∃x,n-i=x:=⟨_,rfl⟩
    have hin:i+en'=mid+m:=by have:=HN.out;omega
    have C:=S1.out.1.cut HO.out HB.out HSS.out.1 HSS.out.2 hin
    have ee:(n:Int)-(i:Int)=(en':Int):=by have:=HN.out;omega
    have c1:=C.am
    have c2:=C.mb
    have HCC:=As.mk C
    have S3:Aside _:=S1.out.2
    clear S1 hlt hen hin C
    go_upto_region 39 with fail
    obtain⟨c39,hc39⟩:∃c,decide (i<m/\m<en')=c:=⟨_,rfl⟩
    have HC39:=As.mk hc39
    clear hc39
    go_cut [185] from 178 to 185 (fun v wz=>v= .bool c39/\wr=wz)
    case first=>
     by_cases q1:i<m
     ·by_cases q2:m<en'
      ·have q1z:(i:Int)<(m:Int):=by omega
       have q2z:(m:Int)<(en':Int):=by omega
       have e:c39=true:=by rw[<-HC39.out];exact decide_eq_true ⟨q1,q2⟩
       subst e
       clear q1 q2
       go_wp2_with fail
       go_meet
       exact⟨rfl,rfl⟩
      ·have q1z:(i:Int)<(m:Int):=by omega
       have q2z:¬(m:Int)<(en':Int):=by omega
       have e:c39=false:=by rw[<-HC39.out];exact decide_eq_false (fun h=>q2 h.2)
       subst e
       clear q1 q2
       go_wp2_with fail
       go_meet
       exact⟨rfl,rfl⟩
     ·have q1z:¬(i:Int)<(m:Int):=by omega
      have e:c39=false:=by rw[<-HC39.out];exact decide_eq_false (fun h=>q1 h.1)
      subst e
      clear q1
      go_wp2_with fail
      go_meet
      exact⟨rfl,rfl⟩
    case rest=>
     obtain⟨rfl,rfl⟩:=hcut
     go_upto_if 185 with fail
     go_cut [] from 186 to 191 (fun wc=>∃f,As (Rot i m en' d f/\PermIn a b d f/\SWK enc k w0 blk off f wc))
     case first=>
      cases c39
      ·have q:i=m\/m=en':=by
        have:=of_decide_eq_false HC39.out
        omega
       have HF:=As.mk (And.intro (Rot.none d q (by omega)) (And.intro (permIn_refl d a b) S3.out))
       clear q
       go_wp2_with fail
       go_meet
       exact⟨d,HF⟩
      ·have H1:As (Calls Tryz.prog 129 #[.slice (some ⟨blk,off,none⟩) d.size cap,.int .i64 i,.int .i64 m,.int .i64 en',.func (.func g) #[] cb] wr fun e w'=>e= .returned (.tuple #[])/\As (∃f,Rot i m en' d f/\PermIn a b d f/\SWK enc k w0 blk off f w')):=⟨by
        have q:=of_decide_eq_true HC39.out
        refine(rotate_any k HX0.out.aE HX0.out.zE enc (.func (.func g) #[] cb) blk off cap i m en' d0 d w0 wr HR.out HS.out.symm S3.out q.1 q.2 (by omega) hsz).mono ?_
        rintro e w' ⟨rfl,f,h1,h2,h3⟩
        exact⟨rfl,⟨f,h1,permIn_mono d f i en' a b (by omega) (by omega) hb h2,h3⟩⟩⟩
       clear S3
       go_wp2_with (go_at_call 129;refine H1.out.mono ?_;rintro e w1 ⟨rfl,HF⟩;clear H1)
       go_meet
       obtain⟨f,hf⟩:=HF.out
       exact⟨f,⟨hf⟩⟩
     case rest=>
      obtain⟨f,HF⟩:=hcut
      have HH:=As.mk (HCC.out.halves HO.out HSS.out.1 HSS.out.2 HF.out.1)
      have HFS:=As.mk (show f.size=d.size from HF.out.2.1.1)
      go_upto_region 41 with fail
      obtain⟨c41,hc41⟩:∃c,decide (a<i/\i<mid)=c:=⟨_,rfl⟩
      have HC41:=As.mk hc41
      clear hc41
      go_cut [199] from 192 to 199 (fun v wz=>v= .bool c41/\wc=wz)
      case first=>
       by_cases q1:a<i
       ·by_cases q2:i<mid
        ·have q1z:(a:Int)<(i:Int):=by omega
         have q2z:(i:Int)<(mid:Int):=by omega
         have e:c41=true:=by rw[<-HC41.out];exact decide_eq_true ⟨q1,q2⟩
         subst e
         clear q1 q2
         go_wp2_with fail
         go_meet
         exact⟨rfl,rfl⟩
        ·have q1z:(a:Int)<(i:Int):=by omega
         have q2z:¬(i:Int)<(mid:Int):=by omega
         have e:c41=false:=by rw[<-HC41.out];exact decide_eq_false (fun h=>q2 h.2)
         subst e
         clear q1 q2
         go_wp2_with fail
         go_meet
         exact⟨rfl,rfl⟩
       ·have q1z:¬(a:Int)<(i:Int):=by omega
        have e:c41=false:=by rw[<-HC41.out];exact decide_eq_false (fun h=>q1 h.1)
        subst e
        clear q1
        go_wp2_with fail
        go_meet
        exact⟨rfl,rfl⟩
      case rest=>
       obtain⟨rfl,rfl⟩:=hcut
       go_upto_if 199 with fail
       go_cut [] from 200 to 205 (fun wx=>∃(f1:Array α) (wd:World),wd=wx/\As (PermIn a mid f f1/\SortedIn (ltOf cf) a mid f1/\SWK enc k w0 blk off f1 wd))
       case first=>
        cases c41
        ·have HG:As (PermIn a mid f f/\SortedIn (ltOf cf) a mid f/\SWK enc k w0 blk off f wc):=⟨permIn_refl f a mid,by
          have:=of_decide_eq_false HC41.out
          by_cases q:a<i
          ·exact SortedIn.part HH.out.s1 (Nat.le_refl _) (by omega)
          ·exact SortedIn.part HH.out.s2 (by omega) (Nat.le_refl _),HF.out.2.2⟩
         go_wp2_with fail
         go_meet
         exact⟨f,_,rfl,HG⟩
        ·have H1:As (Calls Tryz.prog 120 #[.slice (some ⟨blk,off,none⟩) d.size cap,.int .i64 a,.int .i64 i,.int .i64 mid,.func (.func g) #[] cb] wc (MergePost enc k cf blk off w0 a mid f)):=⟨by
          have q:=of_decide_eq_true HC41.out
          exact IH.out a i mid f wc (by omega) HFS.out HF.out.2.2 q.1 q.2 (by omega) HH.out.s1 HH.out.s2⟩
         go_wp2_with (go_at_call 120;refine H1.out.mono ?_;rintro e w1 ⟨rfl,HG⟩;have HG2:=As.mk HG;clear H1 HG)
         go_meet
         obtain⟨f1,h1,h2,h3⟩:=HG2.out
         exact⟨f1,_,rfl,⟨h1,h2,h3⟩⟩
       case rest=>
        obtain⟨f1,wd,rfl,HG⟩:=hcut
        have HGS:=As.mk (show f1.size=d.size from HG.out.1.1.trans HFS.out)
        have FIN:As (∀f2 wz,PermIn mid b f1 f2->SortedIn (ltOf cf) mid b f2->SWK enc k w0 blk off f2 wz->∃f,PermIn a b d f/\SortedIn (ltOf cf) a b f/\SWK enc k w0 blk off f wz):=⟨fun f2 wz p2 t2 h3=>
         ⟨f2,permIn_trans _ _ _ a b (permIn_trans _ _ _ a b HF.out.2.1 (permIn_mono f f1 a mid a b (Nat.le_refl _) (by omega) (by rw[HFS.out];exact hb) HG.out.1)) (permIn_mono f1 f2 mid b a b (by omega) (Nat.le_refl _) (by rw[HGS.out];exact hb) p2),
          HH.out.join (by omega) (by rw[HFS.out];exact hb) HG.out.1 HG.out.2.1 p2 t2,h3⟩⟩
        go_upto_region 43 with fail
        obtain⟨c43,hc43⟩:∃c,decide (mid<en'/\en'<b)=c:=⟨_,rfl⟩
        have HC43:=As.mk hc43
        clear hc43
        go_cut [213] from 206 to 213 (fun v wz=>v= .bool c43/\wd=wz)
        case first=>
         by_cases q1:mid<en'
         ·by_cases q2:en'<b
          ·have q1z:(mid:Int)<(en':Int):=by omega
           have q2z:(en':Int)<(b:Int):=by omega
           have e:c43=true:=by rw[<-HC43.out];exact decide_eq_true ⟨q1,q2⟩
           subst e
           clear q1 q2
           go_wp2_with fail
           go_meet
           exact⟨rfl,rfl⟩
          ·have q1z:(mid:Int)<(en':Int):=by omega
           have q2z:¬(en':Int)<(b:Int):=by omega
           have e:c43=false:=by rw[<-HC43.out];exact decide_eq_false (fun h=>q2 h.2)
           subst e
           clear q1 q2
           go_wp2_with fail
           go_meet
           exact⟨rfl,rfl⟩
         ·have q1z:¬(mid:Int)<(en':Int):=by omega
          have e:c43=false:=by rw[<-HC43.out];exact decide_eq_false (fun h=>q1 h.1)
          subst e
          clear q1
          go_wp2_with fail
          go_meet
          exact⟨rfl,rfl⟩
        case rest=>
         obtain⟨rfl,rfl⟩:=hcut
         cases c43
         ·have HZ:As (∃f,PermIn a b d f/\SortedIn (ltOf cf) a b f/\SWK enc k w0 blk off f wd):=⟨FIN.out f1 wd (permIn_refl f1 mid b) (by
           have:=of_decide_eq_false HC43.out
           by_cases q:mid<en'
           ·exact SortedIn.part (SortedIn.out HH.out.s3 HG.out.1 (.inr (Nat.le_refl _))) (Nat.le_refl _) (by omega)
           ·exact SortedIn.part (SortedIn.out HH.out.s4 HG.out.1 (.inr (by omega))) (by omega) (Nat.le_refl _)) HG.out.2.2⟩
          go_wp2_with fail
          go_end0
          exact⟨rfl,HZ.out⟩
         ·have H1:As (Calls Tryz.prog 120 #[.slice (some ⟨blk,off,none⟩) d.size cap,.int .i64 mid,.int .i64 en',.int .i64 b,.func (.func g) #[] cb] wd (MergePost enc k cf blk off w0 mid b f1)):=⟨by
           have q:=of_decide_eq_true HC43.out
           exact IH.out mid en' b f1 wd (by omega) HGS.out HG.out.2.2 q.1 q.2 hb (SortedIn.out HH.out.s3 HG.out.1 (.inr (Nat.le_refl _))) (SortedIn.out HH.out.s4 HG.out.1 (.inr (by omega)))⟩
          go_wp2_with (go_at_call 120;refine H1.out.mono ?_;rintro e w1 ⟨rfl,HY⟩;have HG2:=As.mk HY;clear H1 HY)
          go_end0
          obtain⟨f2,h1,h2,h3⟩:=HG2.out
          exact⟨rfl,FIN.out f2 _ h1 h2 h3⟩
theorem merge_any{enc:α->List Value}{k:Nat}{cf:α->α->Int}{g:Nat}{cb:Array Value}{blk off:Nat}{d0:Array α}{w0:World}(X:Srt enc k cf g cb blk off d0 w0)(cap:Nat):
 ∀(N a m b:Nat) (d:Array α) (w:World),b-a<N->d.size=d0.size->SWK enc k w0 blk off d w->a<m->m<b->b<=d.size->SortedIn (ltOf cf) a m d->SortedIn (ltOf cf) m b d->
 Calls Tryz.prog 120 #[.slice (some ⟨blk,off,none⟩) d.size cap,.int .i64 a,.int .i64 m,.int .i64 b,.func (.func g) #[] cb] w (MergePost enc k cf blk off w0 a b d):=by
 intro N
 induction N with
 |zero=>intro a m b d w h;omega
 |succ N ih=>
  intro a m b d w hN hs S ham hmb hb s1 s2
  by_cases h1:m<=a+1
  ·exact merge_first X cap a m b d w hs S ham h1 hmb hb s2
  ·by_cases h2:b<=m+1
   ·exact merge_last X cap a m b d w hs S (by omega) hmb h2 hb s1
   ·refine merge_most X cap a m b d w hs S (by omega) (by omega) hb s1 s2 (fun a' m' b' f wx h3 h4 h5 h6 h7 h8 h9 h10=> ?_)
    have:=ih a' m' b' f wx (by omega) (h4.trans hs) h5 h6 h7 (by omega) h9 h10
    rwa[h4] at this
variable {α:Type} [Inhabited α]
theorem insert_any{enc:α->List Value}{k:Nat}{cf:α->α->Int}{g:Nat}{cb:Array Value}{blk off:Nat}{d0:Array α}{w0:World}(X:Srt enc k cf g cb blk off d0 w0)(cap a b:Nat)(d:Array α)(w:World)
 (hs:d.size=d0.size) (S:SWK enc k w0 blk off d w) (hab:a<=b) (hb:b<=d.size):
 Calls Tryz.prog 119 #[.slice (some ⟨blk,off,none⟩) d.size cap,.int .i64 a,.int .i64 b,.func (.func g) #[] cb] w fun e w'=>e= .returned (.tuple #[])/\∃f,PermIn a b d f/\SortedIn (ltOf cf) a b f/\SWK enc k w0 blk off f w':=by
 have mixed:Tryz.prog.follows Departure.mixedOrders=true:=by kernel_rfl
 obtain⟨aE,zE,eg,hc,R,hO,hz⟩:=X
 have HC:Aside _:=hc
 have HR:Aside _:=R
 have HO:Aside _:=hO
 have S0:Aside (SWK enc k w0 blk off d w):=S
 have hsz:d.size<4611686018427387904:=by rw[hs];exact hz
 have HS:=As.mk hs
 clear S hc R hO hs
 go_enter Tryz.func119,Tryz.ntmps119
 go_wp2
 go_loopg [8] (b-a) (fun g1 vi wr=>∃(i:Nat) (dk:Array α),vi= .int .i64 i/\a<i/\i<=b+1/\b+1-i<=g1+1/\Aside (dk.size=d.size/\SWK enc k w0 blk off dk wr/\insOuter (ltOf cf) a b i dk=insOuter (ltOf cf) a b (a+1) d))
 case atStart=>exact⟨a+1,d,by go_num,by omega,by omega,by omega,⟨rfl,S0.out,rfl⟩⟩
 case round=>
  clear S0
  obtain⟨i,dk,rfl,hai,hib,hg1,HI⟩:=hrel
  by_cases hlt:i<b
  ·have hltz:(i:Int)<(b:Int):=by omega
   go_wp2
   go_loopg [9] i (fun g2 vj wr2=>∃(j:Nat) (dj:Array α),vj= .int .i64 j/\a<=j/\j<=i/\j<=g2/\Aside (dj.size=d.size/\SWK enc k w0 blk off dj wr2/\insInner (ltOf cf) a j dj=insInner (ltOf cf) a i dk))
   case atStart=>exact⟨i,dk,rfl,by omega,Nat.le_refl _,Nat.le_refl _,⟨HI.out.1,HI.out.2.1,rfl⟩⟩
   case round=>
    obtain⟨j,dj,rfl,haj,hji,hg2,HJ⟩:=hrel
    have OUT:As ((j<=a\/ltOf cf dj[j]! dj[j-1]! =false)->insOuter (ltOf cf) a b (i+1) dj=insOuter (ltOf cf) a b (a+1) d):=⟨fun hs=>by
     rw[<-HI.out.2.2,insOuter_go _ _ _ _ _ hlt,<-HJ.out.2.2,insInner_stop _ _ _ _ hs]⟩
    by_cases hja:a<j
    ·have hjaz:(a:Int)<(j:Int):=by omega
     obtain⟨v,hv⟩:∃v,j-1=v:=⟨_,rfl⟩
     have HV:=As.mk hv
     have ev:IntKind.i64.wrap ((j:Int)-1)=(v:Int):=by rw[IntKind.wrap_i64];omega
     have iv1:a<=v:=by omega
     have hvj:v<j:=by omega
     have hjd:j<d.size:=by omega
     have ev0:(0:Int)<=(v:Int):=by omega
     clear hv
     obtain⟨xj,hxj⟩:∃x,dj[j]! =x:=⟨_,rfl⟩
     obtain⟨xp,hxp⟩:∃x,dj[v]! =x:=⟨_,rfl⟩
     have jz:(j:Int)<(d.size:Int):=by omega
     have jz1:(v:Int)<(d.size:Int):=by omega
     have lj:=HJ.out.2.1.ld HR.out (by rw[HJ.out.1,HS.out]) Tryz.prog j (by rw[HJ.out.1];omega)
     have lp:=HJ.out.2.1.ld HR.out (by rw[HJ.out.1,HS.out]) Tryz.prog v (by rw[HJ.out.1];omega)
     rw[hxj] at lj
     rw[hxp] at lp
     have hcg:=HJ.out.2.1.cmp HC.out (by rw[HJ.out.1,HS.out]) xj xp
     have HX:Hid (dj[j]! =xj/\dj[v]! =xp):=⟨hxj,hxp⟩
     clear hxj hxp
     by_cases hlv:cf xj xp<0
     ·go_wp2_with fail
      go_quiet_grown (first|(go_at_fn g;refine Calls.grown_of (hcg _ _)))
      go_wp2_with fail
      have SG:Aside (SWK enc k w0 blk off dj (grow (wr.drewN nq) osq)):=HJ.out.2.1.grown nq osq
      clear lj lp hcg
      generalize grow (wr.drewN nq) osq=wq at SG⊢
      have S2:Aside (SWK enc k w0 blk off (swp dj j v) ((wq.drew.setCells blk (off+j*k) (enc dj[v]!)).setCells blk (off+v*k) (enc dj[j]!))):=SG.out.swapped HR.out j v (by rw[HJ.out.1];omega) (by rw[HJ.out.1];omega)
      have l44a:=SG.out.ld1 HR.out (by rw[HJ.out.1,HS.out]) Tryz.prog j (by rw[HJ.out.1];omega)
      have l44b:=SG.out.ld1 HR.out (by rw[HJ.out.1,HS.out]) Tryz.prog v (by rw[HJ.out.1];omega)
      have s44a:=SG.out.st1 HR.out (by rw[HJ.out.1,HS.out]) Tryz.prog j (by rw[HJ.out.1];omega) dj[v]!
      have s44b:=SG.out.st2 HR.out (by rw[HJ.out.1,HS.out]) Tryz.prog j v (by rw[HJ.out.1];omega) (by rw[HJ.out.1];omega) dj[v]! dj[j]!
      have n44a:(enc dj[j]!).length=k:=HR.out.hk _
      have n44b:(enc dj[v]!).length=k:=HR.out.hk _
      generalize enc dj[j]! =cI44 at S2 l44a s44b n44a
      generalize enc dj[v]! =cJ44 at S2 l44b s44a s44b n44b
      clear SG
      go_wp2_with fail
      go_big_region_o
      clear l44a l44b s44a s44b
      generalize (wq.drew.setCells blk (off+j*k) cJ44).setCells blk (off+v*k) cI44=w2 at S2⊢
      have ev2:(j:Int)-1=(v:Int):=by have:=HV.out;omega
      go_wp2
      go_roundg v
      case measure=>omega
      case rel=>
       refine⟨v,swp dj j v,rfl,iv1,by omega,Nat.le_refl _,⟨by rw[size_swp];exact HJ.out.1,S2.out, ?_⟩⟩
       have e:=insInner_go (ltOf cf) a j dj hja (by rw[HV.out,HX.out.1,HX.out.2];exact decide_eq_true hlv)
       rw[HV.out] at e
       rw[<-HJ.out.2.2,e]
     ·have hq:decide (cf xj xp<0)=false:=decide_eq_false hlv
      go_wp2_with fail
      go_quiet_grown (first|(go_at_fn g;refine Calls.grown_of (hcg _ _)))
      go_wp2
      go_roundg (b-(i+1))
      case measure=>omega
      case rel=>exact⟨i+1,dj,by go_num,by omega,by omega,by omega,⟨HJ.out.1,HJ.out.2.1.grown nq osq,OUT.out (Or.inr (by rw[HV.out,HX.out.1,HX.out.2];exact decide_eq_false (by omega)))⟩⟩
    ·have hjaz:decide ((j:Int)>(a:Int))=false:=decide_eq_false (by omega)
     have hjaz':¬(a:Int)<(j:Int):=by omega
     have hjaz3:decide (a<j)=false:=decide_eq_false (by omega)
     have HE:=As.mk (OUT.out (Or.inl (by omega)))
     clear OUT hja
     go_wp2_with fail
     go_big_region_o
     all_goals go_wp2
     go_roundg (b-(i+1))
     case measure=>omega
     case rel=>exact⟨i+1,dj,by go_num,by omega,by omega,by omega,⟨HJ.out.1,HJ.out.2.1.drew,HE.out⟩⟩
  ·have hltz:¬(i:Int)<(b:Int):=by omega
   go_wp2
   go_end0
   have e:insertionSort (ltOf cf) d a b=dk:=by unfold insertionSort;rw[<-HI.out.2.2,insOuter_stop _ _ _ _ _ hlt]
   have h:=insertionSort_holds HO.out d a b hab hb
   rw[e] at h
   exact⟨rfl,dk,h.1,h.2,HI.out.2.1⟩
variable {α:Type} [Inhabited α]
theorem Blk.mono{lt:α->α->Bool}{s lo lo2 n:Nat}{d:Array α}(h:Blk lt s lo n d)(hl:lo<=lo2):Blk lt s lo2 n d:=fun x h1 h2 h3=>h x (by omega) h2 h3
theorem stable_any{enc:α->List Value}{k:Nat}{cf:α->α->Int}{g:Nat}{cb:Array Value}{blk off:Nat}{d0:Array α}{w0:World}(X:Srt enc k cf g cb blk off d0 w0)(cap n:Nat)(d:Array α)(w:World)
 (hs:d.size=d0.size) (hn:n=d.size) (hn40:n<=1099511627776) (S:SWK enc k w0 blk off d w):
 Calls Tryz.prog 92 #[.slice (some ⟨blk,off,none⟩) n cap,.int .i64 n,.func (.func g) #[] cb] w fun e w'=>e= .returned (.tuple #[])/\∃f,PermIn 0 n d f/\SortedIn (ltOf cf) 0 n f/\SWK enc k w0 blk off f w':=by
 have HI:As (∀(a b:Nat) (dk:Array α) (wr:World),dk.size=n->SWK enc k w0 blk off dk wr->a<=b->b<=n->Calls Tryz.prog 119 #[.slice (some ⟨blk,off,none⟩) n cap,.int .i64 a,.int .i64 b,.func (.func g) #[] cb] wr fun e w'=>e= .returned (.tuple #[])/\As (∃f,PermIn a b dk f/\SortedIn (ltOf cf) a b f/\SWK enc k w0 blk off f w')):=⟨fun a b dk wr h1 h2 h3 h4=>by
  have:=insert_any X cap a b dk wr (by omega) h2 h3 (by omega)
  rw[h1] at this
  exact this.mono (fun e w' h=>⟨h.1,⟨h.2⟩⟩)⟩
 have HM:As (∀(a m b:Nat) (dk:Array α) (wr:World),dk.size=n->SWK enc k w0 blk off dk wr->a<m->m<b->b<=n->SortedIn (ltOf cf) a m dk->SortedIn (ltOf cf) m b dk->Calls Tryz.prog 120 #[.slice (some ⟨blk,off,none⟩) n cap,.int .i64 a,.int .i64 m,.int .i64 b,.func (.func g) #[] cb] wr fun e w'=>e= .returned (.tuple #[])/\As (∃f,PermIn a b dk f/\SortedIn (ltOf cf) a b f/\SWK enc k w0 blk off f w')):=⟨fun a m b dk wr h1 h2 h3 h4 h5 h6 h7=>by
  have:=merge_any X cap (b-a+1) a m b dk wr (by omega) (by omega) h2 h3 h4 (by omega) h6 h7
  rw[h1] at this
  exact this.mono (fun e w' h=>⟨h.1,⟨h.2⟩⟩)⟩
 have hsz:n<4611686018427387904:=by rw[hn,hs];exact X.hz
 have HN:=As.mk hn
 have S0:As (PermIn 0 n d d/\Bel (ltOf cf) 20 0 n d/\SWK enc k w0 blk off d w):=⟨permIn_refl d 0 n,Bel.zero 20 n d,S⟩
 clear S hs hn X
 go_enter Tryz.func92,Tryz.ntmps92
 go_wp2
 go_loopg [7,8] (n+20) (fun kx s7 s8 wr=>∃(a b:Nat) (dk:Array α),s7= .int .i64 a/\s8= .int .i64 b/\a<=n/\a<b/\b<=n+20/\n+21-b<=kx/\As (b=a+20/\20∣a)/\As (PermIn 0 n d dk/\Bel (ltOf cf) 20 a n dk/\SWK enc k w0 blk off dk wr))
 case atStart=>exact⟨0,20,d,rfl,rfl,by omega,by omega,by omega,by omega,⟨rfl,⟨0,rfl⟩⟩,S0⟩
 case round=>
  clear S0
  obtain⟨a,b,dk,rfl,rfl,han,hab,hbn,hkx,HE,HD⟩:=hrel
  by_cases hlt:b<=n
  ·have hltz:(b:Int)<=(n:Int):=by omega
   have H1:=As.mk (HI.out a b dk wr (HD.out.1.1.trans HN.out.symm) HD.out.2.2 (by omega) hlt)
   go_wp2_with (go_at_call 119;refine H1.out.mono ?_;rintro e w1 ⟨rfl,HF⟩;clear H1)
   go_roundg (n+1-b)
   case measure=>have:=HE.out.1;omega
   case rel=>
    obtain⟨f,h1,h2,h3⟩:=HF.out
    have e:=HE.out
    have hm:min (a+20) n=b:=by omega
    refine⟨b,b+20,f,rfl,by go_num,hlt,by omega,by omega,by omega,⟨rfl,by rw[e.1];exact Nat.dvd_add e.2 ⟨1,rfl⟩⟩,⟨permIn_trans _ _ _ 0 n HD.out.1 (permIn_mono dk f a b 0 n (by omega) hlt (by rw[HD.out.1.1,<-HN.out];omega) h1), ?_,h3⟩⟩
    have:=HD.out.2.1.next e.2 (by rw[hm];exact h1) (by rw[hm];exact h2)
    rwa[<-e.1] at this
  ·have hltz:¬(b:Int)<=(n:Int):=by omega
   have H1:=As.mk (HI.out a n dk wr (HD.out.1.1.trans HN.out.symm) HD.out.2.2 (by omega) (Nat.le_refl _))
   clear HI
   go_upto_region 7 with(go_at_call 119;refine H1.out.mono ?_;rintro e w1 ⟨rfl,HF⟩;clear H1)
   have S1:As (∃f,PermIn 0 n d f/\Blk (ltOf cf) 20 0 n f/\SWK enc k w0 blk off f w1):=⟨by
    obtain⟨f,h1,h2,h3⟩:=HF.out
    have e:=HE.out
    have hm:min (a+20) n=n:=by omega
    have h4:=HD.out.2.1.next e.2 (by rw[hm];exact h1) (by rw[hm];exact h2)
    exact⟨f,permIn_trans _ _ _ 0 n HD.out.1 (permIn_mono dk f a n 0 n (by omega) (Nat.le_refl _) (by rw[HD.out.1.1,<-HN.out];omega) h1),h4.blk (by omega),h3⟩⟩
   clear HF HD HE hltz hlt hkx
   go_loopg [6] (2*n+1) (fun kx s6 wr=>∃(s:Nat) (dk:Array α),s6= .int .i64 s/\1<=s/\s<=2*n+20/\2*n+21-s<=kx+20/\As (PermIn 0 n d dk/\Blk (ltOf cf) s 0 n dk/\SWK enc k w0 blk off dk wr))
   case atStart=>obtain⟨f,h⟩:=S1.out;exact⟨20,f,rfl,by omega,by omega,by omega,⟨h⟩⟩
   case round=>
    clear S1
    obtain⟨s,dk,rfl,hs1,hs2,hkx,HD⟩:=hrel
    obtain⟨t,ht⟩:∃t,2*s=t:=⟨_,rfl⟩
    have HT:=As.mk ht
    have et:(2:Int)*(s:Int)=(t:Int):=by omega
    have et2:(s:Int)*(2:Int)=(t:Int):=by omega
    have hts:s<t:=by omega
    have htb:t<=4*n+40:=by omega
    clear ht
    by_cases hlt:s<n
    ·have hltz:(s:Int)<(n:Int):=by omega
     go_wp2_with fail
     go_loopg [7,8] (n+t) (fun kx s7 s8 wr=>∃(a b:Nat) (dj:Array α),s7= .int .i64 a/\s8= .int .i64 b/\a<=n/\a<b/\b<=n+t/\n+t+1-b<=kx/\As (b=a+t/\2*s∣a)/\As (PermIn 0 n d dj/\Bel (ltOf cf) (2*s) a n dj/\Blk (ltOf cf) s a n dj/\SWK enc k w0 blk off dj wr))
     case atStart=>exact⟨0,t,dk,rfl,rfl,by omega,by omega,by omega,by omega,⟨by omega,⟨0,rfl⟩⟩,⟨HD.out.1,Bel.zero _ _ _,HD.out.2.1,HD.out.2.2⟩⟩
     case round=>
      clear HD
      obtain⟨a,b,dj,rfl,rfl,han,hab,hbn,hky,HE,HG⟩:=hrel
      obtain⟨m,hm⟩:∃m,a+s=m:=⟨_,rfl⟩
      have em:(a:Int)+(s:Int)=(m:Int):=by omega
      have HMM:=As.mk hm
      have hma:a<m:=by omega
      have hmb:m<b:=by have:=HE.out.1;omega
      clear hm
      have HSZ:=As.mk (show dj.size=n from HG.out.1.1.trans HN.out.symm)
      have HS1:As (m<=n->SortedIn (ltOf cf) a m dj):=⟨fun h=>by
       have e:=HE.out
       have hd:s∣a:=Nat.dvd_trans ⟨2,by omega⟩ e.2
       have:=HG.out.2.2.1 a (Nat.le_refl _) (by omega) hd
       rwa[HMM.out,show min m n=m by omega] at this⟩
      have HS2:As (m<n->SortedIn (ltOf cf) m (min b n) dj):=⟨fun h=>by
       have e:=HE.out
       have hd:s∣a:=Nat.dvd_trans ⟨2,by omega⟩ e.2
       have:=HG.out.2.2.1 m (by omega) h (by rw[<-HMM.out];exact Nat.dvd_add hd ⟨1,by omega⟩)
       rwa[show m+s=b by have:=HMM.out;have:=HT.out;omega] at this⟩
      by_cases hlt:b<=n
      ·have hltz:(b:Int)<=(n:Int):=by omega
       have H1:=As.mk (HM.out a m b dj wr HSZ.out HG.out.2.2.2 hma hmb hlt (HS1.out (by omega)) (by have:=HS2.out (by omega);rwa[show min b n=b by omega] at this))
       go_wp2_with (go_at_call 120;refine H1.out.mono ?_;rintro e w1 ⟨rfl,HF⟩;clear H1)
       go_roundg (n+1-b)
       case measure=>omega
       case rel=>
        obtain⟨f,h1,h2,h3⟩:=HF.out
        have e:=HE.out
        have hm:min (a+2*s) n=b:=by have:=HT.out;omega
        refine⟨b,b+t,f,rfl,by go_num,hlt,by omega,by omega,by omega,⟨rfl,by rw[e.1,<-HT.out];exact Nat.dvd_add e.2 ⟨1,by omega⟩⟩,⟨permIn_trans _ _ _ 0 n HG.out.1 (permIn_mono dj f a b 0 n (by omega) hlt (by rw[HSZ.out];omega) h1), ?_,(HG.out.2.2.1.mono (by omega)).out h1 (Nat.le_refl _),h3⟩⟩
        have:=HG.out.2.1.next e.2 (by rw[hm];exact h1) (by rw[hm];exact h2)
        rwa[show a+2*s=b by have:=HT.out;omega] at this
      ·have hltz:¬(b:Int)<=(n:Int):=by omega
       by_cases hmn:m<n
       ·have hmz:(m:Int)<(n:Int):=by omega
        have H1:=As.mk (HM.out a m n dj wr HSZ.out HG.out.2.2.2 hma hmn (Nat.le_refl _) (HS1.out (by omega)) (by have:=HS2.out (by omega);rwa[show min b n=n by omega] at this))
        go_wp2_with (go_at_call 120;refine H1.out.mono ?_;rintro e w1 ⟨rfl,HF⟩;clear H1)
        go_roundg (2*n+1-t)
        case measure=>omega
        case rel=>
         obtain⟨f,h1,h2,h3⟩:=HF.out
         have e:=HE.out
         have hm:min (a+2*s) n=n:=by have:=HT.out;omega
         refine⟨t,f,rfl,by omega,by have:=HT.out;omega,by omega,⟨permIn_trans _ _ _ 0 n HG.out.1 (permIn_mono dj f a n 0 n (by omega) (Nat.le_refl _) (by rw[HSZ.out];omega) h1), ?_,h3⟩⟩
         have:=(HG.out.2.1.next e.2 (by rw[hm];exact h1) (by rw[hm];exact h2)).blk (by have:=HT.out;omega)
         rwa[HT.out] at this
       ·have hmz:¬(m:Int)<(n:Int):=by omega
        go_wp2_with fail
        go_roundg (2*n+1-t)
        case measure=>omega
        case rel=>
         have e:=HE.out
         refine⟨t,dj,rfl,by omega,by have:=HT.out;omega,by omega,⟨HG.out.1, ?_,HG.out.2.2.2⟩⟩
         have:=HG.out.2.1.rest HG.out.2.2.1 e.2 (by have:=HMM.out;omega)
         rwa[HT.out] at this
    ·have hltz:¬(s:Int)<(n:Int):=by omega
     go_wp2_with fail
     go_end0
     refine⟨rfl,dk,HD.out.1, ?_,HD.out.2.2⟩
     by_cases h0:n=0
     ·exact sorted_one 0 n dk (by omega)
     ·have:=HD.out.2.1 0 (Nat.le_refl _) (by omega) ⟨0,rfl⟩
      exact SortedIn.part this (Nat.le_refl _) (by omega)
end Go.Proofs.YtdiljpdohmeceaaGreat.so
namespace Go.Proofs.YtdiljpdohmeceaaGreat.so
open Go.RowKit Go.Sort Go.Lib H O opk frame wir co
theorem lex_tri:∀(a b:List Int),a<b\/a=b\/b<a
 |[],[]=> .inr (.inl rfl)
 |[],_::_=> .inl (List.nil_lt_cons _ _)
 |_::_,[]=> .inr (.inr (List.nil_lt_cons _ _))
 |x::a,y::b=>by
  rcases Int.lt_trichotomy x y with h|h|h
  ·exact .inl (List.cons_lt_cons_iff.2 (.inl h))
  ·subst h
   rcases lex_tri a b with e|e|e
   ·exact .inl (List.cons_lt_cons_iff.2 (.inr ⟨rfl,e⟩))
   ·exact .inr (.inl (by rw[e]))
   ·exact .inr (.inr (List.cons_lt_cons_iff.2 (.inr ⟨rfl,e⟩)))
  ·exact .inr (.inr (List.cons_lt_cons_iff.2 (.inl h)))
theorem lex_irr(a:List Int):¬a<a:=List.lt_irrefl a
theorem lex_tr{a b c:List Int}(h:a<b)(k:b<c):a<c:=List.lt_trans h k
theorem cmp_lex:∀(a b:List UInt8),compareBytes a b=if(a.map fun c=>(c.toNat:Int))<(b.map fun c=>(c.toNat:Int)) then-1 else if(a.map fun c=>(c.toNat:Int))=(b.map fun c=>(c.toNat:Int)) then 0 else 1
 |[],[]=>by simp[compareBytes]
 |[],_::_=>by simp[compareBytes]
 |_::_,[]=>by simp[compareBytes]
 |x::a,y::b=>by
  rw[compareBytes,cmp_lex a b]
  simp only[List.map_cons,List.cons_lt_cons_iff,List.cons.injEq]
  rcases Nat.lt_trichotomy x.toNat y.toNat with h|h|h
  ·rw[if_pos (UInt8.lt_iff_toNat_lt.2 h),if_pos (.inl (by omega))]
  ·have e:x=y:=UInt8.toNat.inj h
   subst e
   rw[if_neg (UInt8.lt_irrefl x),if_neg (UInt8.lt_irrefl x)]
   simp
  ·rw[if_neg (fun e=>by have:=UInt8.lt_iff_toNat_lt.1 e;omega),if_pos (UInt8.lt_iff_toNat_lt.2 h),if_neg (by omega),if_neg (by omega)]
theorem cmp_kb(a b:ByteArray):compareBytes a.data.toList b.data.toList=if kb a<kb b then-1 else if kb a=kb b then 0 else 1:=cmp_lex _ _
def cmpI(x y:Int):Int:=if x<y then-1 else if y<x then 1 else 0
def cmpM(a b:ByteArray×Int):Int:=if compareBytes a.1.data.toList b.1.data.toList≠0 then compareBytes a.1.data.toList b.1.data.toList else cmpI a.2 b.2
def ltM(a b:ByteArray×Int):Prop:=kb a.1<kb b.1\/kb a.1=kb b.1/\a.2<b.2
theorem cmpM_lt(a b:ByteArray×Int):ltOf cmpM a b=true↔ltM a b:=by
 show decide (cmpM a b<0)=true↔_
 rw[decide_eq_true_eq]
 unfold cmpM cmpI ltM
 rw[cmp_kb]
 by_cases h:kb a.1<kb b.1
 ·simp[h]
 ·by_cases h2:kb a.1=kb b.1
  ·rw[if_neg h,if_pos h2,if_neg (by simp)]
   simp only[h2,true_and]
   by_cases h3:a.2<b.2
   ·simp[h3,lex_irr]
   ·by_cases h4:b.2<a.2<;>simp[h3,h4,lex_irr]
  ·simp[h,h2]
theorem cmpM_ge(a b:ByteArray×Int):ltOf cmpM a b=false↔¬ltM a b:=by
 rw[<-cmpM_lt]
 simp
theorem ltM_tri(a b:ByteArray×Int):ltM a b\/a=b\/ltM b a:=by
 unfold ltM
 rcases lex_tri (kb a.1) (kb b.1) with h|h|h
 ·exact .inl (.inl h)
 ·rcases Int.lt_trichotomy a.2 b.2 with e|e|e
  ·exact .inl (.inr ⟨h,e⟩)
  ·exact .inr (.inl (Prod.ext (kb_inj h) e))
  ·exact .inr (.inr (.inr ⟨h.symm,e⟩))
 ·exact .inr (.inr (.inl h))
theorem ltM_irr(a:ByteArray×Int):¬ltM a a:=by
 rintro(h|h)
 ·exact lex_irr _ h
 ·omega
theorem ltM_tr{a b c:ByteArray×Int}(h:ltM a b)(k:ltM b c):ltM a c:=by
 rcases h with h|⟨h,h2⟩<;>rcases k with k|⟨k,k2⟩
 ·exact .inl (lex_tr h k)
 ·exact .inl (by rw[<-k];exact h)
 ·exact .inl (by rw[h];exact k)
 ·exact .inr ⟨h.trans k,by omega⟩
theorem swoM:SWO (ltOf cmpM):=by
 refine⟨fun x=>(cmpM_ge _ _).2 (ltM_irr x),fun x y z h k=>(cmpM_lt _ _).2 (ltM_tr ((cmpM_lt _ _).1 h) ((cmpM_lt _ _).1 k)),fun x y z h k=> ?_⟩
 rw[cmpM_ge] at h k⊢
 intro e
 rcases ltM_tri x y with p|p|p
 ·exact h p
 ·subst p;exact k e
 ·exact k (ltM_tr p e)
theorem antM(x y:ByteArray×Int)(h:ltOf cmpM x y=false)(k:ltOf cmpM y x=false):x=y:=by
 rw[cmpM_ge] at h k
 rcases ltM_tri x y with p|p|p
 ·exact absurd p h
 ·exact p
 ·exact absurd p k
theorem mLe_eq(x y:ByteArray×Int):(!ltOf cmpM y x)=mLe x y:=by
 rw[Bool.eq_iff_iff]
 rw[Bool.not_eq_true',cmpM_ge]
 unfold mLe ltM
 simp only[Bool.or_eq_true,Bool.and_eq_true,decide_eq_true_eq]
 constructor
 ·intro h
  rcases lex_tri (kb x.1) (kb y.1) with e|e|e
  ·exact .inl e
  ·exact .inr ⟨e,by
    apply Int.not_lt.1
    intro e2
    exact h (.inr ⟨e.symm,e2⟩)⟩
  ·exact absurd (.inl e) h
 ·rintro(h|⟨h,h2⟩) (k|⟨k,k2⟩)
  ·exact lex_irr _ (lex_tr h k)
  ·rw[k] at h;exact lex_irr _ h
  ·rw[h] at k;exact lex_irr _ k
  ·omega
def Gr(w w':World):Prop:=∃q os,w'=grow (w.drewN q) os
theorem Gr.refl(w:World):Gr w w:=⟨0,#[],by rw[grow_empty];rfl⟩
theorem Gr.drewN{w w':World}(h:Gr w w')(n:Nat):Gr w (w'.drewN n):=by
 obtain⟨q,os,rfl⟩:=h
 exact⟨q+n,os,by rw[<-World.drewN_drewN];rfl⟩
theorem Gr.drew{w w':World}(h:Gr w w'):Gr w w'.drew:=h.drewN 1
theorem Gr.alloc{w w':World}(h:Gr w w')(o:Obj):Gr w (w'.alloc o):=by
 obtain⟨q,os,rfl⟩:=h
 exact⟨q,os++ #[o],by rw[alloc_eq_grow,grow_grow]⟩
theorem compareString_any(a b:ByteArray)(w:World):Calls Tryz.prog 55 #[.string a,.string b] w fun e w'=>e= .returned (.int .i64 (compareBytes a.data.toList b.data.toList))/\w'=w:=by
 have H1:∀wX,Calls Tryz.prog 93 #[.string a,.string b] wX fun e w'=>e= .returned (.int .i64 (compareBytes a.data.toList b.data.toList))/\w'=wX:=fun wX=>by
  go_enter Tryz.func93,Tryz.ntmps93
  go_wp2
  rw[run_callFunc_extern Tryz.func121 (by kernel_rfl) (by kernel_rfl) (by kernel_rfl) (e:=Extern.BytealgCompare.compare) (by kernel_rfl),Lib.run_compareString]
  simp only[Result.andThen]
  rw[Oper.upon_value]
  go_wp2
  go_ret
  exact⟨rfl,rfl⟩
 go_enter Tryz.func55,Tryz.ntmps55
 go_wp2_with (go_at_call 93;refine(H1 _).mono ?_;rintro e w' ⟨rfl,rfl⟩)
 go_ret
 exact⟨rfl,rfl⟩
theorem isNaN_any(x:Int)(w:World):Calls Tryz.prog 94 #[.int .i64 x] w fun e w'=>e= .returned (.bool false)/\w'=w:=by
 go_enter Tryz.func94,Tryz.ntmps94
 go_wp2
 go_ret
 exact⟨rfl,rfl⟩
theorem compareI_any(x y:Int)(w:World):Calls Tryz.prog 56 #[.int .i64 x,.int .i64 y] w fun e w'=>e= .returned (.int .i64 (cmpI x y))/\w'=w:=by
 go_enter Tryz.func56,Tryz.ntmps56
 unfold cmpI
 by_cases h:x<y
 ·rw[if_pos h]
  go_wp2_with (go_at_call 94;refine(isNaN_any _ _).mono ?_;rintro e w' ⟨rfl,rfl⟩)
  go_ret
  exact⟨rfl,rfl⟩
 ·rw[if_neg h]
  by_cases h2:y<x
  ·rw[if_pos h2]
   go_wp2_with (go_at_call 94;refine(isNaN_any _ _).mono ?_;rintro e w' ⟨rfl,rfl⟩)
   go_ret
   exact⟨rfl,rfl⟩
  ·rw[if_neg h2]
   go_wp2_with (go_at_call 94;refine(isNaN_any _ _).mono ?_;rintro e w' ⟨rfl,rfl⟩)
   go_ret
   exact⟨rfl,rfl⟩
theorem or_any(x y z:Int)(b:Nat)(w:World)(h0:w.cell? ⟨b,0,none⟩=some (.int .i64 x))(h1:w.cell? ⟨b,1,none⟩=some (.int .i64 y))(hz:z=if x≠0 then x else y):Calls Tryz.prog 54 #[.slice (some ⟨b,0,none⟩) 2 2] w fun e w'=>e= .returned (.int .i64 z)/\w'=w:=by
 have HZ:=As.mk hz
 clear hz
 by_cases hx:x=0
 ·have e:z=y:=by rw[HZ.out,if_neg (by simp[hx])]
  subst e hx
  by_cases hy:z=0
  ·subst hy
   go_enter Tryz.func54,Tryz.ntmps54
   go_wp2
   refine wp_loop_rounds 3 ?_
   rw[rounds_succ]
   go_wp2
   rw[rounds_succ]
   go_wp2
   rw[rounds_succ]
   go_wp2
   go_ret
   exact⟨rfl,rfl⟩
  ·go_enter Tryz.func54,Tryz.ntmps54
   go_wp2
   refine wp_loop_rounds 3 ?_
   rw[rounds_succ]
   go_wp2
   rw[rounds_succ]
   go_wp2
   go_ret
   exact⟨rfl,rfl⟩
 ·have e:z=x:=by rw[HZ.out,if_pos hx]
  subst e
  go_enter Tryz.func54,Tryz.ntmps54
  go_wp2
  refine wp_loop_rounds 3 ?_
  rw[rounds_succ]
  go_wp2
  go_ret
  exact⟨rfl,rfl⟩
theorem less_any(a b:ByteArray×Int)(w:World):Calls Tryz.prog 53 #[.agg #[.string a.1,.int .i64 a.2],.agg #[.string b.1,.int .i64 b.2]] w fun e w'=>e= .returned (.int .i64 (cmpM a b))/\Gr w w':=by
 obtain⟨ka,xa⟩:=a
 obtain⟨kb',xb⟩:=b
 obtain⟨r,hr⟩:∃r,cmpM (ka,xa) (kb',xb)=r:=⟨_,rfl⟩
 obtain⟨cs,hcs⟩:∃r,compareBytes ka.data.toList kb'.data.toList=r:=⟨_,rfl⟩
 obtain⟨ci,hci⟩:∃r,cmpI xa xb=r:=⟨_,rfl⟩
 have HR:As (r=if cs≠0 then cs else ci):=⟨by rw[<-hr,<-hcs,<-hci];rfl⟩
 have H1:As (∀wX,Calls Tryz.prog 55 #[.string ka,.string kb'] wX fun e w'=>e= .returned (.int .i64 cs)/\w'=wX):=⟨fun wX=>by rw[<-hcs];exact compareString_any ka kb' wX⟩
 have H2:As (∀wX,Calls Tryz.prog 56 #[.int .i64 xa,.int .i64 xb] wX fun e w'=>e= .returned (.int .i64 ci)/\w'=wX):=⟨fun wX=>by rw[<-hci];exact compareI_any xa xb wX⟩
 have H3:As (∀b wX,wX.cell? ⟨b,0,none⟩=some (.int .i64 cs)->wX.cell? ⟨b,1,none⟩=some (.int .i64 ci)->Calls Tryz.prog 54 #[.slice (some ⟨b,0,none⟩) 2 2] wX fun e w'=>e= .returned (.int .i64 r)/\w'=wX):=⟨fun b wX h0 h1=>or_any cs ci r b wX h0 h1 HR.out⟩
 show Calls _ _ _ _ fun e w'=>e= .returned (.int .i64 (cmpM (ka,xa) (kb',xb)))/\Gr w w'
 rw[hr]
 clear hr hcs hci HR
 go_enter Tryz.func53,Tryz.ntmps53
 go_upto_region 1 with fail
 obtain⟨w1,hw1⟩:∃w1,w1=(w.alloc (.cells #[.string ka,.int .i64 xa] 73)).alloc (.cells #[.string kb',.int .i64 xb] 73):=⟨_,rfl⟩
 have hG:Gr w w1:=by rw[hw1];exact((Gr.refl w).alloc _).alloc _
 have s1:w1.heap.size=w.heap.size+1+1:=by rw[hw1];simp
 have b0:w1.heap[w.heap.size]?=some (.cells #[.string ka,.int .i64 xa] 73):=by rw[hw1];exact blk_alloc (heap_alloc_new w _) _
 have b1:w1.heap[w.heap.size+1]?=some (.cells #[.string kb',.int .i64 xb] 73):=by
  rw[hw1]
  have:=heap_alloc_new (w.alloc (.cells #[.string ka,.int .i64 xa] 73)) (.cells #[.string kb',.int .i64 xb] 73)
  rwa[World.size_alloc] at this
 have c0:=bkc b0 0 rfl
 have c1:=bkc b0 1 rfl
 have d0:=bkc b1 0 rfl
 have d1:=bkc b1 1 rfl
 rw[<-hw1]
 have HG:=As.mk hG
 have l0:w.heap.size<w1.heap.size:=by omega
 have l1:w.heap.size+1<w1.heap.size:=by omega
 clear hw1 hG s1 b0 b1
 go_region_held3 (fun w'=>w'.cell? ⟨w.heap.size,0,none⟩=some (.string ka)/\w'.cell? ⟨w.heap.size,1,none⟩=some (.int .i64 xa)/\w'.cell? ⟨w.heap.size+1,0,none⟩=some (.string kb')/\w'.cell? ⟨w.heap.size+1,1,none⟩=some (.int .i64 xb)) (go_keep)
  (first
   |(go_at_call 55;refine(H1.out _).mono ?_;rintro e w' ⟨rfl,rfl⟩)
   |(go_at_call 56;refine(H2.out _).mono ?_;rintro e w' ⟨rfl,rfl⟩)
   |(go_at_call 54;refine(H3.out _ _ (by simp) (by simp)).mono ?_;rintro e w' ⟨rfl,rfl⟩))
 all_goals
  go_wp2
  go_ret
  refine⟨rfl, ?_⟩
  repeat (first|exact HG.out|refine Gr.drew ?_|refine Gr.drewN ?_ _|refine Gr.alloc ?_ _)
def encM(m:ByteArray×Int):List Value:=[.string m.1,.int .i64 m.2]
theorem mv_flat(l:List (ByteArray×Int))(t:Nat)(ht:t<l.length*2):(mv l)[t]?=some ((flatK encM 2 l.toArray)[t]!):=by
 have h2:t/2<l.length:=by omega
 rw[get_flatK encM 2 l.toArray t (by simpa using ht)]
 have hg:=mv_get l (t/2) h2
 have he:l.toArray[t/2]! =l[t/2]:=by rw[getElem!_pos _ _ (by simpa using h2)];simp
 rw[he]
 rcases (by omega:t%2=0\/t%2=1) with e|e
 ·rw[e]
  have:t=t/2*2:=by omega
  rw[<-this] at hg
  rw[hg.1]
  rfl
 ·rw[e]
  have:t=t/2*2+1:=by omega
  rw[<-this] at hg
  rw[hg.2]
  rfl
theorem holds_of{w:World}{T:TypeId}{g cap n:Nat}{l:List (ByteArray×Int)}(h:w.ownsRow 0 T 2 (.slice (some ⟨g,0,none⟩) n cap) n (mv l))(hn:l.length=n):HoldsK encM 2 w g 0 l.toArray:=by
 intro j hj
 rw[size_flatK] at hj
 have hj2:j<l.length*2:=by simpa using hj
 refine⟨?_, ?_⟩
 ·rw[Nat.zero_add]
  show _=some (flatK encM 2 l.toArray)[j]!
  rw[h.cellAt j (by omega)]
  exact mv_flat l j hj2
 ·rw[Nat.zero_add]
  exact h.frozenAt j
theorem own_sorted{w w':World}{T:TypeId}{g cap n:Nat}{l:List (ByteArray×Int)}{f:Array (ByteArray×Int)}(h:w.ownsRow 0 T 2 (.slice (some ⟨g,0,none⟩) n cap) n (mv l))(hn:l.length=n)(hf:f.size=n)(S:SWK encM 2 w g 0 f w'):
 w'.ownsRow 0 T 2 (.slice (some ⟨g,0,none⟩) n cap) n (mv f.toList)/\Kp [g] w w':=by
 rcases h.2 with⟨h1,_⟩|⟨g',cap',cur,h0,hb,hh,h1,h2,h3,h4⟩
 ·cases h1
 cases h0
 have hlt:g<w.heap.size:=lt_of_block hh
 have hH:=S.holds hlt (holds_of h hn) (by rw[hf,<-hn];simp)
 obtain⟨m,os,rfl⟩:=S
 have hsz:(putRowK encM 2 (Sort.ahead w m) g 0 f).heap.size=w.heap.size:=size_putRowK encM 2 _ g 0 f
 have hg:(sortWorldK encM 2 w g 0 m f os).heap[g]?=some (.cells (putCells id 0 (flatK encM 2 f) cur) T (0,0)):=by
  unfold sortWorldK
  rw[heap_grow_old _ _ (by rw[hsz];exact hlt)]
  unfold putRowK putRow mapBlock
  simp only[Array.getElem?_modify,if_true]
  show Option.map _ w.heap[g]?=_
  rw[hh]
  rfl
 refine⟨⟨by rw[mv_len];simp[hf],.inr ⟨g,cap,_,rfl,Nat.zero_le _,hg,h1,h2,by unfold putCells;rw[Array.size_mapIdx];exact h3, ?_⟩⟩,⟨rfl,rfl,rfl, ?_, ?_⟩⟩
 ·apply List.ext_getElem?
  intro t
  rw[List.getElem?_take]
  by_cases ht:t<n*2
  ·rw[if_pos ht]
   have hc:=(hH t (by rw[size_flatK,hf];exact ht)).1
   have ht2:t<f.toList.length*2:=by simp[hf];exact ht
   have hmv:=mv_flat f.toList t ht2
   rw[show f.toList.toArray=f from rfl] at hmv
   rw[hmv]
   have hc2:=cell_of_row (sortWorldK encM 2 w g 0 m f os) g t _ T (0,0) hg
   rw[Nat.zero_add] at hc
   rw[hc] at hc2
   simpa using hc2.symm
  ·rw[if_neg ht]
   rw[List.getElem?_eq_none (by rw[mv_len];simp[hf];omega)]
 ·unfold sortWorldK
  rw[size_grow,hsz]
  omega
 ·intro k hk hne
  unfold sortWorldK
  rw[heap_grow_old _ _ (by rw[hsz];exact hk)]
  unfold putRowK putRow mapBlock
  simp only[Array.getElem?_modify]
  rw[if_neg (by simpa using fun e=>hne (by simp[e]))]
  rfl
theorem info_match:(Tryz.prog.info? 73).map (fun i=>(i.zero,i.size,i.bytes))=some (some (.agg #[.string ⟨#[]⟩,.int .i64 0]),2,24):=by kernel_rfl
theorem isAgg_match(w:World):(isAgg 73).run Tryz.prog w= .ok true w:=by kernel_rfl
theorem sizeOf_match(w:World):(Go.sizeOf 73).run Tryz.prog w= .ok 2 w:=by kernel_rfl
theorem cmpLays(blk size:Nat)(w:World):CmpLays Tryz.prog 53 #[] encM 2 cmpM blk 0 size w:=by
 intro m os dk _ x y
 exact less_any x y _
theorem sorted_is{l:List (ByteArray×Int)}{f:Array (ByteArray×Int)}(p:PermIn 0 l.toArray.size l.toArray f)(s:SortedIn (ltOf cmpM) 0 l.toArray.size f):f.toList=sortM l:=by
 have h:=sorted_unique_holds swoM antM l.toArray f p s
 rw[h]
 show l.mergeSort _=l.mergeSort mLe
 congr 1
 funext x y
 exact mLe_eq x y
theorem sort_nil(w:World):Calls Tryz.prog 52 #[.slice none 0 0,.func (.func 53) #[] #[]] w fun e w'=>e= .returned (.tuple #[])/\w'=w:=by
 have H1:∀wX,Calls Tryz.prog 119 #[.slice none 0 0,.int .i64 0,.int .i64 0,.func (.func 53) #[] #[]] wX fun e w'=>e= .returned (.tuple #[])/\w'=wX:=fun wX=>by
  go_enter Tryz.func119,Tryz.ntmps119
  go_wp2
  refine wp_loop_rounds 1 ?_
  rw[rounds_succ]
  go_wp2
  go_end0
  exact⟨rfl,rfl⟩
 have H2:∀wX,Calls Tryz.prog 92 #[.slice none 0 0,.int .i64 0,.func (.func 53) #[] #[]] wX fun e w'=>e= .returned (.tuple #[])/\w'=wX:=fun wX=>by
  go_enter Tryz.func92,Tryz.ntmps92
  go_wp2
  refine wp_loop_rounds 1 ?_
  rw[rounds_succ]
  go_wp2_with (go_at_call 119;refine(H1 _).mono ?_;rintro e w' ⟨rfl,rfl⟩)
  refine wp_loop_rounds 1 ?_
  rw[rounds_succ]
  go_wp2
  go_end0
  exact⟨rfl,rfl⟩
 go_enter Tryz.func52,Tryz.ntmps52
 go_wp2_with (go_at_call 92;refine(H2 _).mono ?_;rintro e w' ⟨rfl,rfl⟩)
 go_end0
 exact⟨rfl,rfl⟩
theorem sort_any(v:Value)(l:List (ByteArray×Int))(w:World)(h:w.ownsRow 0 73 2 v l.length (mv l))(hl:l.length<=1000000000000):
 Calls Tryz.prog 52 #[v,.func (.func 53) #[] #[]] w fun e w'=>e= .returned (.tuple #[])/\w'.ownsRow 0 73 2 v l.length (mv (sortM l))/\Kp v.ownBlock.toList w w':=by
 rcases h.2 with⟨rfl,h0⟩|⟨g,cap,cur,rfl,hb,hh,h1,h2,h3,h4⟩
 ·have e:l=[]:=List.eq_nil_of_length_eq_zero h0
  subst e
  refine(sort_nil w).mono ?_
  rintro e w' ⟨rfl,rfl⟩
  exact⟨rfl,by rw[show sortM []=[] by simp[sortM]];exact World.ownsRow_nil _ 0 _ 2,Kp.refl _ _⟩
 ·obtain⟨n,hn⟩:∃n,l.length=n:=⟨_,rfl⟩
  have hH:=holds_of h rfl
  have hlt:g<w.heap.size:=lt_of_block hh
  have X:Srt encM 2 cmpM 53 #[] g 0 l.toArray w:=⟨isAgg_match,sizeOf_match,enters_of Tryz.func53 (by kernel_rfl) rfl,cmpLays g _ w,⟨fun _=>rfl,fun x v hv=>by
   simp only[encM,List.mem_cons,List.not_mem_nil,or_false] at hv
   rcases hv with rfl|rfl<;>rfl,hH,hlt⟩,swoM,by simp;omega⟩
  have HS:As (Calls Tryz.prog 92 #[.slice (some ⟨g,0,none⟩) n cap,.int .i64 n,.func (.func 53) #[] #[]] w fun e w'=>e= .returned (.tuple #[])/\As (w'.ownsRow 0 73 2 (.slice (some ⟨g,0,none⟩) n cap) n (mv (sortM l))/\Kp [g] w w')):=⟨by
   refine(stable_any X cap n l.toArray w rfl (by simp[hn]) (by omega) (SWK.start hH)).mono ?_
   rintro e w' ⟨rfl,f,p,s,S⟩
   refine⟨rfl,⟨?_⟩⟩
   have es:n=l.toArray.size:=by simp[hn]
   rw[es] at p s
   have hfs:f.size=n:=by rw[p.1,es]
   have:=own_sorted (by rw[<-hn];exact h) hn hfs S
   rwa[sorted_is p s] at this⟩
  rw[hn]
  have hn9:n<=1000000000000:=by omega
  clear h hH X h4 h3 hh hn hl
  go_enter Tryz.func52,Tryz.ntmps52
  go_wp2_with (go_at_call 92;refine HS.out.mono ?_;rintro e w1 ⟨rfl,HF⟩;clear HS)
  go_end0
  exact⟨rfl,HF.out.1,HF.out.2⟩
end Go.Proofs.YtdiljpdohmeceaaGreat.so
namespace Go.Proofs.YtdiljpdohmeceaaGreat.co
open Go.RowKit H O opk frame wir
theorem AskAt.set8{S:List Nat}{w:World}{p:Nat}{a:Ask}(h:AskAt S w p a)(hp:p∈S)(b:Bool):AskAt S (w.setCell ⟨p,8,none⟩ (.bool b)) p {a with answered:=b}:=by
 obtain⟨kd,dv,fv,h1,h2⟩:=h
 have k:Kp [p] w (w.setCell ⟨p,8,none⟩ (.bool b)):=(Kp.refl _ w).setCell (.inl (by simp)) _
 exact⟨kd,dv,fv,heap_setCell_same w p 8 _ _ _ h1,h2.kp k (by intro x hx;simp at hx;subst hx;exact .inl hp) (fun x hx=> .inl hx)⟩
theorem AskAt.ms{S:List Nat}{w:World}{p:Nat}{a:Ask}(h:AskAt S w p a)(m:List (ByteArray×Int)):AskAt S w p {a with ms:=m}:=h
theorem flat_set:∀(az:List Ask) (i:Nat) (a:Ask) (m:List (ByteArray×Int)),az[i]?=some a->a.ms=[]->((az.set i {a with ms:=m}).flatMap (·.ms)).Perm (az.flatMap (·.ms)++m)
 |[],i,a,m,h,_=>by simp at h
 |x::l,0,a,m,h,h0=>by
  simp only[List.getElem?_cons_zero,Option.some.injEq] at h
  subst h
  simp only[List.set_cons_zero,List.flatMap_cons,h0,List.nil_append]
  exact List.perm_append_comm
 |x::l,i+1,a,m,h,h0=>by
  simp only[List.set_cons_succ,List.flatMap_cons,List.append_assoc]
  exact(flat_set l i a m (by simpa using h) h0).append_left _
theorem CoP.took{U:List Nat}{w w1:World}{L:Lay}{cf:Cfg}{s:Cs}{κ:Nat->Nat}{VS VW VJ VD MV AV mv':Value}{l:List (ByteArray×Int)}(h:CoP U w L cf s κ VS VW VJ VD MV AV l){p0:Nat}{ps:List Nat}{i:Nat}{a:Ask}{ms:List (ByteArray×Int)}{C:Array Value}
 (hjs:L.js=p0::ps) (ha:s.asks[i]?=some a) (hms:a.ms=[]) (k:Kp (p0::MV.ownBlock.toList) w w1) (hb0:w.heap[p0]?=some (.cells C 92 (0,0))) (hb:w1.heap[p0]?=some (.cells (C.setIfInBounds 5 mv') 92 (0,0)))
 (ho:w1.ownsRow 0 73 2 mv' (l++ms).length (mv (l++ms))) (hat:At w.heap.size MV.ownBlock mv'.ownBlock):
 ∃L',CoSt U w1 L' cf {s with asks:=s.asks.set i {a with ms:=ms}}/\Grew w L L'/\L'.js=L.js:=by
 have hs:=k.size
 have hgm:L.gm=MV.ownBlock:=h.mq.2.1.symm
 let L':Lay:=⟨L.b,L.gw,L.gj,L.gd,L.ga,mv'.ownBlock,L.js,L.az⟩
 have hat2:∀x,mv'.ownBlock=some x->L.gm=some x\/w.heap.size<=x/\x<w1.heap.size:=by
  intro x e
  have hx:=own_lt ho x e
  rcases hat with e2|⟨y,e2,hy⟩
  ·left;rw[hgm,<-e2];exact e
  ·rw[e2] at e
   cases e
   exact .inr ⟨hy,hx⟩
 have hp7:=h.sep.js p0 (by rw[hjs];simp)
 have hkp:∀x∈p0::MV.ownBlock.toList,(x=p0\/κ x=6)/\x∈L.all:=by
  intro x hx
  rcases List.mem_cons.1 hx with rfl|hx
  ·exact⟨.inl rfl,Lay.mem.2 (by simp[hjs])⟩
  ·have e:L.gm=some x:=by rw[hgm];simpa using hx
   exact⟨.inr (h.sep.gm x e).1,Lay.mem.2 (by simp[e])⟩
 have hV':∀x∈p0::MV.ownBlock.toList,x∈L.all++U\/w.heap.size<=x:=fun x hx=> .inl (List.mem_append.2 (.inl (hkp x hx).2))
 have hgr:∀x∈L'.all,x∈L.all\/w.heap.size<=x:=by
  intro x hx
  rcases Lay.mem.1 hx with e|e|e|e|e|e|e|e
  ·exact .inl (Lay.mem.2 (.inl e))
  ·exact .inl (Lay.mem.2 (.inr (.inl e)))
  ·exact .inl (Lay.mem.2 (by simp[show L.gj=some x from e]))
  ·exact .inl (Lay.mem.2 (by simp[show L.gd=some x from e]))
  ·exact .inl (Lay.mem.2 (by simp[show L.ga=some x from e]))
  ·rcases hat2 x e with e2|e2
   ·exact .inl (Lay.mem.2 (by simp[e2]))
   ·exact .inr e2.1
  ·exact .inl (Lay.mem.2 (by simp[show x∈L.js from e]))
  ·exact .inl (Lay.mem.2 (by simp[show x∈L.az from e]))
 have hS':∀x∈L'.all++U,x∈L.all++U\/w.heap.size<=x:=by
  intro x hx
  rcases List.mem_append.1 hx with e|e
  ·exact(hgr x e).imp (fun e=>List.mem_append.2 (.inl e)) id
  ·exact .inl (List.mem_append.2 (.inr e))
 have ne:∀x c,κ x=c->c≠6->x≠p0->x∉p0::MV.ownBlock.toList:=fun x c hx hc h0 hm=>by
  rcases (hkp x hm).1 with e|e
  ·exact h0 e
  ·omega
 have np:∀x c,κ x=c->c≠7->x≠p0:=fun x c hx hc e=>by rw[e] at hx;omega
 have lo:∀x c,κ x=c/\x<w.heap.size->c≠6->(if mv'.ownBlock=some x then 6 else κ x)=c/\x<w1.heap.size:=by
  intro x c hx hc
  rw[if_neg]
  ·exact⟨hx.1,by omega⟩
  ·intro e
   rcases hat2 x e with e2|e2
   ·have:=h.sep.gm x e2;omega
   ·omega
 have hne:s.asks≠[]:=fun e=>by rw[e] at ha;simp at ha
 refine⟨L',⟨fun x=>if mv'.ownBlock=some x then 6 else κ x,VS,VW,VJ,VD,mv',AV,l++ms,⟨lo _ _ h.sep.b (by decide),lo _ _ h.sep.gw (by decide),fun x e=>lo _ _ (h.sep.gj x e) (by decide),fun x e=>lo _ _ (h.sep.gd x e) (by decide),fun x e=>lo _ _ (h.sep.ga x e) (by decide),fun x e=> ?_,fun x e=>lo _ _ (h.sep.js x e) (by decide),fun x e=>lo _ _ (h.sep.az x e) (by decide),h.sep.jn,h.sep.an,fun x e=>lo _ _ (h.sep.U x e) (by decide)⟩,
  k.blk h.hd (ne _ _ h.sep.b.1 (by decide) (np _ _ h.sep.b.1 (by decide))),h.sh.kp k hV' hS',⟨k.own h.wh.1 (fun x e=> ?_),h.wh.2⟩,h.jq.kp k (fun x e=>ne _ _ (h.sep.gj x e).1 (by decide) (np _ _ (h.sep.gj x e).1 (by decide))),h.dn.kp k (fun x e=>ne _ _ (h.sep.gd x e).1 (by decide) (np _ _ (h.sep.gd x e).1 (by decide))) hV' hS',h.jl,
  fun i2 j2 p h1 h2=> ?_,by show L.az.length=(s.asks.set i _).length;rw[List.length_set];exact h.al,fun i2 a2 p h1 h2=> ?_,⟨k.own h.aq.1 (fun x e=>ne _ _ (h.sep.ga x (by rw[<-h.aq.2];exact e)).1 (by decide) (np _ _ (h.sep.ga x (by rw[<-h.aq.2];exact e)).1 (by decide))),h.aq.2⟩,⟨ho,rfl, ?_⟩,fun e=> ?_⟩,⟨rfl,hgr⟩,rfl⟩
 ·show(if mv'.ownBlock=some x then 6 else κ x)=6/\x<w1.heap.size
  have e':mv'.ownBlock=some x:=e
  rw[if_pos e']
  refine⟨rfl, ?_⟩
  rcases hat2 x e' with e2|e2
  ·have:=h.sep.gm x e2;omega
  ·exact e2.2
 ·rw[h.wh.2] at e
  cases e
  exact ne _ _ h.sep.gw.1 (by decide) (np _ _ h.sep.gw.1 (by decide))
 ·by_cases e0:i2=0
  ·subst e0
   have h1:s.jobs[0]?=some j2:=h1
   have h2:L.js[0]?=some p:=h2
   obtain⟨tv,dv,q1,q2,q3⟩:=h.ja 0 j2 p h1 h2
   rw[hjs] at h2
   simp only[List.getElem?_cons_zero,Option.some.injEq] at h2
   subst h2
   rw[if_pos rfl,if_pos rfl] at q1
   rw[hb0] at q1
   simp only[Option.some.injEq,Obj.cells.injEq,and_true] at q1
   subst q1
   rw[if_pos rfl,if_pos rfl]
   exact⟨tv,dv,hb,q2.kp k hV' hS',q3.kp k hV' hS'⟩
  ·have h3:=h.ja i2 j2 p h1 h2
   rw[if_neg e0,if_neg e0] at h3⊢
   have hpp:p≠p0:=fun e=>e0 (nodup_idx h.sep.jn h2 (show L.js[0]?=some p by rw[hjs,e];rfl))
   exact h3.kp k (ne _ _ (h.sep.js p (List.mem_of_getElem? h2)).1 (by decide) hpp) hV' hS'
 ·have hi:=(List.getElem?_eq_some_iff.1 ha).1
  have hk:=fun q=>(ne _ _ (h.sep.az p (List.mem_of_getElem? h2)).1 (by decide) q)
  have hpn:=np p _ (h.sep.az p (List.mem_of_getElem? h2)).1 (by decide)
  by_cases e:i2=i
  ·subst e
   have h1:(s.asks.set i2 {a with ms:=ms})[i2]?=some a2:=h1
   rw[show(s.asks.set i2 {a with ms:=ms})[i2]?=some {a with ms:=ms} from by simp[hi]] at h1
   cases h1
   exact((h.aa i2 a p ha h2).kp k (hk hpn) hV' hS').ms ms
  ·have h1:(s.asks.set i {a with ms:=ms})[i2]?=some a2:=h1
   rw[List.getElem?_set_ne (by omega)] at h1
   exact(h.aa i2 a2 p h1 h2).kp k (hk hpn) hV' hS'
 ·show(l++ms).Perm ((s.asks.set i {a with ms:=ms}).flatMap (·.ms))
  exact(h.mq.2.2.append_right ms).trans (flat_set s.asks i a ms ha hms).symm
 ·exfalso
  have e:s.asks.set i {a with ms:=ms}=[]:=e
  have:=congrArg List.length e
  rw[List.length_set] at this
  exact hne (List.eq_nil_of_length_eq_zero this)
theorem sortM_perm{l1 l2:List (ByteArray×Int)}(h:l1.Perm l2):sortM l1=sortM l2:=by
 have hs:∀l:List (ByteArray×Int),(sortM l).Pairwise (fun a b=>mLe a b=true):=fun l=>by
  have e:mLe=fun x y=> !ltOf so.cmpM y x:=by funext x y;exact(so.mLe_eq x y).symm
  unfold sortM
  rw[e]
  refine List.pairwise_mergeSort (fun a b c h1 h2=> ?_) (fun a b=> ?_) l
  ·simp only[Bool.not_eq_true'] at h1 h2⊢
   exact so.swoM.ntrans _ _ _ h2 h1
  ·simp only[Bool.or_eq_true,Bool.not_eq_true']
   cases e:ltOf so.cmpM b a with
   |false=>exact .inl rfl
   |true=>exact .inr (so.swoM.asymmA e)
 have hp:(sortM l1).Perm (sortM l2):=(List.mergeSort_perm _ _).trans (h.trans (List.mergeSort_perm _ _).symm)
 refine List.Perm.eq_of_pairwise (le:=fun a b=>mLe a b=true) (fun a b _ _ h1 h2=> ?_) (hs l1) (hs l2) hp
 rw[<-so.mLe_eq] at h1 h2
 simp only[Bool.not_eq_true'] at h1 h2
 exact so.antM a b h2 h1
def askPr(az:List Ask)(ctx:Int)(k:Nat):Bool:=match az[k]? with
 |some a=> !a.answered&&decide ((a.ctx:Int)=ctx)
 |none=>false
theorem askIx_some{az:List Ask}{ctx:Int}{i:Nat}(h:askIx az ctx=some i):∃a,az[i]?=some a/\a.answered=false/\(a.ctx:Int)=ctx/\IdxR (askPr az ctx) az.length i:=by
 unfold askIx at h
 rw[List.findIdx?_eq_some_iff_getElem] at h
 obtain⟨hi,h1,h2⟩:=h
 simp only[Bool.and_eq_true,Bool.not_eq_true',decide_eq_true_eq] at h1
 refine⟨az[i],List.getElem?_eq_getElem hi,h1.1,h1.2,.inl ⟨i,hi, ?_,fun k hk=> ?_,rfl⟩⟩
 ·simp only[askPr,List.getElem?_eq_getElem hi,h1.1,h1.2]
  rfl
 ·have:=h2 k hk
  simp only[askPr,List.getElem?_eq_getElem (show k<az.length by omega)]
  simpa using this
theorem askIx_none{az:List Ask}{ctx:Int}(h:askIx az ctx=none):IdxR (askPr az ctx) az.length (-1):=by
 unfold askIx at h
 rw[List.findIdx?_eq_none_iff] at h
 refine .inr ⟨fun k hk=> ?_,rfl⟩
 have:=h az[k] (List.getElem_mem hk)
 simp only[askPr,List.getElem?_eq_getElem hk]
 simpa using this
theorem idx_ex(pr:Nat->Bool)(n:Nat):∃r,IdxR pr n r:=by
 induction n with
 |zero=>exact⟨-1,.inr ⟨fun k hk=>by omega,rfl⟩⟩
 |succ n ih=>
  obtain⟨r,⟨i,h1,h2,h3,h4⟩|⟨h1,h2⟩⟩:=ih
  ·exact⟨r,.inl ⟨i,by omega,h2,h3,h4⟩⟩
  ·cases e:pr n with
   |true=>exact⟨(n:Int),.inl ⟨n,by omega,e,h1,rfl⟩⟩
   |false=>exact⟨-1,.inr ⟨fun k hk=>by
    by_cases ek:k=n
    ·rw[ek];exact e
    ·exact h1 k (by omega),rfl⟩⟩
theorem TickPost.nothing{U:List Nat}{w w':World}{L:Lay}{cf:Cfg}{s:Cs}(hC:CoSt U w L cf s)(k:Kp [] w w'):TickPost U L cf (s,[]) w (.returned (.slice none 0 0)) w':=
 ⟨L,_,rfl,hC.kp k (by simp) (fun x hx=> .inl hx),OutI.nil _ _,Grew.refl _ _,k.mono (by simp)⟩
def msgObj(frm dst:Int)(A:Option Addr)(n c:Nat):Obj:= .cells #[.int .i64 frm,.int .i64 dst,.slice A n c] 44
theorem CoP.que0{U:List Nat}{w:World}{L:Lay}{cf:Cfg}{s:Cs}{κ:Nat->Nat}{VS VW VJ VD MV AV:Value}{l:List (ByteArray×Int)}(h:CoP U w L cf s κ VS VW VJ VD MV AV l)(hj:s.jobs=[]):∃A c,VJ= .slice A 0 c:=by
 obtain⟨A,c,rfl⟩:=h.jq.form
 have:=h.jl
 rw[hj] at this
 rw[this]
 exact⟨A,c,rfl⟩
theorem hear_deaf(U:List Nat)(w:World)(L:Lay)(cf:Cfg)(s:Cs)(frm dst:Int)(A:Option Addr)(n c:Nat)(hC:CoSt U w L cf s)(hd:dst≠(cf.id:Int)\/frm<0\/7<=frm\/s.jobs=[]):
 Calls Tryz.prog 17 #[.pointer (some ⟨L.b,0,none⟩),.agg #[.int .i64 frm,.int .i64 dst,.slice A n c]] w (TickPost U L cf (s,[]) w):=by
 have HCS:=As.mk hC
 obtain⟨κ,VS,VW,VJ,VD,MV,AV,l,h⟩:=hC
 obtain⟨W,hW⟩:∃W,W=w.alloc (msgObj frm dst A n c):=⟨_,rfl⟩
 have kW:Kp [] w W:=by rw[hW];exact(Kp.refl [] w).alloc _
 have hb:W.heap[w.heap.size]?=some (msgObj frm dst A n c):=by rw[hW];exact heap_alloc_new w _
 have m0:=bkc hb 0 rfl
 have m1:=bkc hb 1 rfl
 have b0:=kW.cell (bkc h.hd 0 rfl) (by simp)
 have b5:=kW.cell (bkc h.hd 5 rfl) (by simp)
 have HK:=As.mk kW
 have hnb:((w.heap.size:Int)==(w.heap.size:Int))=true:=by simp
 clear hnb
 by_cases h1:dst=(cf.id:Int)
 ·have e1:(dst !=(cf.id:Int))=false:=by simp[h1]
  by_cases h2:frm<0
  ·clear h hb hd kW h1
   unfold msgObj at hW
   go_enter Tryz.func17,Tryz.ntmps17
   go_upto_region 1 with fail
   rw[<-hW]
   clear hW
   go_quiet (fail)
   go_wp2_with fail
   go_ret
   exact TickPost.nothing HCS.out (HK.out.drewN _)
  ·have e2:decide (frm<0)=false:=decide_eq_false h2
   by_cases h3:7<=frm
   ·clear h hb hd kW h1
    unfold msgObj at hW
    go_enter Tryz.func17,Tryz.ntmps17
    go_upto_region 1 with fail
    rw[<-hW]
    clear hW
    go_quiet (fail)
    go_wp2_with fail
    go_ret
    exact TickPost.nothing HCS.out (HK.out.drewN _)
   ·have e3:decide (7<=frm)=false:=decide_eq_false h3
    have hj:s.jobs=[]:=by
     rcases hd with e|e|e|e
     ·exact absurd h1 e
     ·omega
     ·omega
     ·exact e
    obtain⟨AJ,cJ,rfl⟩:=h.que0 hj
    clear h hb hd kW hj h1
    unfold msgObj at hW
    go_enter Tryz.func17,Tryz.ntmps17
    go_upto_region 1 with fail
    rw[<-hW]
    clear hW
    go_quiet (fail)
    go_wp2_with fail
    go_ret
    exact TickPost.nothing HCS.out (HK.out.drewN _)
 ·have e1:(dst !=(cf.id:Int))=true:=by simpa using h1
  clear h hb hd kW
  unfold msgObj at hW
  go_enter Tryz.func17,Tryz.ntmps17
  go_upto_region 1 with fail
  rw[<-hW]
  clear hW
  go_quiet (fail)
  go_wp2_with fail
  go_ret
  exact TickPost.nothing HCS.out (HK.out.drewN _)
end Go.Proofs.YtdiljpdohmeceaaGreat.co
