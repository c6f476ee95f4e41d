/- Words and walks that this claim rests on: proved lemmas alone. -/
import Derived.Test.YtdiljpdohmeceaaGreatZ12
set_option maxHeartbeats 16000000
set_option maxRecDepth 100000
namespace Go.Proofs.YtdiljpdohmeceaaGreat.co
open Go.RowKit H O opk frame wir
open cr (RLay RsSt RNewJ RGrew)
theorem new_bad(id p t:Int)(v:Value)(w:World)(h:id<7\/255<id\/p<1\/1000<p\/t<1\/1000<t):
 Calls Tryz.prog 24 #[.int .i64 id,.int .i64 p,.int .i64 t,v] w fun e w'=>e= .returned (.tuple #[.pointer none,.int .i64 1])/\Kp [] w w':=by
 by_cases h0:id<7
 ·clear h
  go_enter Tryz.func24,Tryz.ntmps24
  go_wp2_with fail
  go_ret2
  exact⟨rfl,Kp.refl _ _⟩
 by_cases h1:255<id
 ·clear h
  go_enter Tryz.func24,Tryz.ntmps24
  go_wp2_with fail
  go_ret2
  exact⟨rfl,Kp.refl _ _⟩
 by_cases h2:p<1
 ·clear h
  go_enter Tryz.func24,Tryz.ntmps24
  go_wp2_with fail
  go_ret2
  exact⟨rfl,Kp.refl _ _⟩
 by_cases h3:1000<p
 ·clear h
  go_enter Tryz.func24,Tryz.ntmps24
  go_wp2_with fail
  go_ret2
  exact⟨rfl,Kp.refl _ _⟩
 by_cases h4:t<1
 ·clear h
  go_enter Tryz.func24,Tryz.ntmps24
  go_wp2_with fail
  go_ret2
  exact⟨rfl,Kp.refl _ _⟩
 have h5:1000<t:=by omega
 clear h
 go_enter Tryz.func24,Tryz.ntmps24
 go_wp2_with fail
 go_ret2
 exact⟨rfl,Kp.refl _ _⟩
theorem cr.new_bad(id p t:Int)(v:Value)(w:World)(h:id<7\/255<id\/p<1\/1000<p\/t<1\/1000<t):
 Calls Tryz.prog 26 #[.int .i64 id,.int .i64 p,.int .i64 t,v] w fun e w'=>e= .returned (.tuple #[.pointer none,.int .i64 1])/\Kp [] w w':=by
 by_cases h0:id<7
 ·clear h
  go_enter Tryz.func26,Tryz.ntmps26
  go_wp2_with fail
  go_ret2
  exact⟨rfl,Kp.refl _ _⟩
 by_cases h1:255<id
 ·clear h
  go_enter Tryz.func26,Tryz.ntmps26
  go_wp2_with fail
  go_ret2
  exact⟨rfl,Kp.refl _ _⟩
 by_cases h2:p<1
 ·clear h
  go_enter Tryz.func26,Tryz.ntmps26
  go_wp2_with fail
  go_ret2
  exact⟨rfl,Kp.refl _ _⟩
 by_cases h3:1000<p
 ·clear h
  go_enter Tryz.func26,Tryz.ntmps26
  go_wp2_with fail
  go_ret2
  exact⟨rfl,Kp.refl _ _⟩
 by_cases h4:t<1
 ·clear h
  go_enter Tryz.func26,Tryz.ntmps26
  go_wp2_with fail
  go_ret2
  exact⟨rfl,Kp.refl _ _⟩
 have h5:1000<t:=by omega
 clear h
 go_enter Tryz.func26,Tryz.ntmps26
 go_wp2_with fail
 go_ret2
 exact⟨rfl,Kp.refl _ _⟩
theorem start_bad(id p t:Int)(w:World)(h:id<7\/255<id\/p<1\/1000<p\/t<1\/1000<t):
 Calls Tryz.prog 8 #[.int .i64 id,.int .i64 p,.int .i64 t] w fun e w'=>∃P,e= .returned (.tuple #[.pointer (some ⟨P,0,none⟩),.bool true])/\w'.cell? ⟨P,0,none⟩=some (.pointer none)/\As (Kp [] w w'):=by
 have H1:=As.mk (fun v wX=>new_bad id p t v wX h)
 have H2:=As.mk (fun v wX=>cr.new_bad id p t v wX h)
 have HK:As (∀(a b c:Obj),Kp [] w (((w.alloc a).alloc b).alloc c)):=⟨fun a b c=>(((Kp.refl [] w).alloc _).alloc _).alloc _⟩
 clear h
 go_enter Tryz.func8,Tryz.ntmps8
 go_wp2_with (first
  |(go_at_call 24;refine(H1.out _ _).mono ?_;rintro e w1 ⟨rfl,k1⟩;have HK1:As (Kp [] w w1):=⟨(HK.out _ _ _).trans k1 (by simp)⟩;clear H1 k1)
  |(go_at_call 26;refine(H2.out _ _).mono ?_;rintro e w2 ⟨rfl,k2⟩;have HK2:As (Kp [] w w2):=⟨((((HK1.out).alloc _).alloc _).alloc _).trans k2 (by simp)⟩;clear H2 k2))
 go_ret2
 exact⟨_,rfl,bkc (heap_alloc_new _ _) 0 rfl,⟨HK2.out.alloc _⟩⟩
end Go.Proofs.YtdiljpdohmeceaaGreat.co
