/- Several texts in one: MoE StrG MoF MoG SamP MoH GxYt MoI WhA. Condition: none. -/
import Derived.Test.YtapciiffpnociadGreatM22
import Derived.Test.YtapciiffpnociadGreatM20
import Derived.Test.YtapciiffpnociadGreatM21
import Derived.Test.YtapciiffpnociadGreatM10
import Derived.Test.YtapciiffpnociadGreatM08
import Derived.Test.YtapciiffpnociadGreatM17
import Derived.Test.YtapciiffpnociadGreatM19
set_option linter.all false
set_option maxHeartbeats 8000000
open Bool renaming false_and→Cm,true_and→Bo
open List renaming all_eq_true→Bg,append_assoc→Bt,cons_append→Cd,drop_eq_getElem_cons→Ao,drop_of_length_le→Ax,getElem?_eq_getElem→Ab,getElem?_toArray→Gk,getElem_mem→Ag,length_append→Ap,length_map→Aa,mem_append_left→A0,mem_append_right→B7,mem_cons→Be,mem_cons_self→Ae,mem_of_getElem?→B5,not_mem_nil→Bz,pairwise_singleton→Dt
open Nat renaming le_of_ble_eq_true→Ac,le_trans→Ar,not_lt_zero→A6,zero_le→Ai
namespace Go.Proofs.YtapciiffpnociadGreat
section
open Go Go.RowKit
variable [Bnds]
theorem mErr_lev {p:Prg} {l:List Fct}:pk p l=if levE p≠0 then levE p else et p.arity l:=by
 unfold pk levE;by_cases h:dw dx p=0
 ·rw [h];cases q8 p<;>simp
 ·simp [h]
attribute [local irreducible] DW DS DL DQ Ev FnOk FnP dp bh DT
theorem yq (p:Prg) (l:List Fct):Fn 62 [db p,.d (.slice 2 (l.map aa))] (λr=>r = .d (.int .i64 (et p.arity l))):=by
 refine fqE Tryz.func62 ?_;intro O w0 E0 β0;have ll:(l.map aa).length=l.length:=Aa _;refine c8 (t:=1) rfl λhk=>?_
 unfold et;by_cases h2:60<l.length
 ·rw [if_pos h2];repeat' (first|refine zr ?_|(refine zm ?_ ?_<;>intro hg)|(exfalso;omega))
  all_goals exact⟨.inl rfl,_,rfl,rfl,rfl⟩
 ·rw [if_neg h2];repeat' (first|refine zr ?_|(refine zm ?_ ?_<;>intro hg)|(exfalso;omega))
  refine ak (ι:=Nat) (λi=>⟨1,[(2,.loc 0 0),(11,.d (.slice 2 (l.map aa))),(12,.d (.int .i64 l.length)),(13,.d (.int .i64 i))],[(0,.blk 26 [.d (.slice 1 (p.arity.map ah)),.d (.slice 1 (p.names.map dl)),.d (.slice 5 (p.rules.map a6))])]⟩)
   (λi=>i<=l.length/\b8 (kt p.arity) l=b8 (kt p.arity) (l.drop i)) (λi=>l.length-i) 0 ⟨Ai _,rfl⟩ (ag id ⟨rfl,rfl,by rw [<- ll];rfl,rfl,trivial⟩ ⟨rfl,trivial⟩ rfl rfl rfl rfl rfl rfl) ?_
  rintro i ⟨g1,g2⟩;dsimp only at g1 g2 ⊢;by_cases hi:i<l.length
  ·rw [gz hi] at g2;have w2:=fright_fn p l[i];by_cases h3:kt p.arity l[i]≠0
   ·rw [if_pos h3] at g2;rw [g2];repeat' (first|refine zr ?_|refine z21 ?_ (hc:=by apply w2)|(refine zm ?_ ?_<;>intro hg)|(exfalso;omega))
    all_goals exact⟨.inl rfl,_,rfl,rfl,rfl⟩
   ·rw [if_neg h3] at g2;repeat' (first|refine zr ?_|refine z21 ?_ (hc:=by apply w2)|(refine zm ?_ ?_<;>intro hg)|(exfalso;omega))
    exact⟨i+1,⟨hi,g2⟩,er id,by omega⟩
  ·rw [jh (by omega)] at g2;rw [g2];repeat' (first|refine zr ?_|(refine zm ?_ ?_<;>intro hg)|(exfalso;omega))
   all_goals exact⟨.inl rfl,_,rfl,rfl,rfl⟩
theorem mallO_fn (p:Prg) (l:List Fct) :
  Fn 48 [db p,.d (.slice 2 (l.map aa))]
   (λr=>∃ (m:List Fct) (hw:List Stp) (e:Int),r = .tup [.d (.own Bnds.B (.slice 2 (m.map aa))),.d (.slice 4 (hw.map ck)),.d (.int .i64 e)]/\ModelR p l e m/\(e=0->HwOk l m hw/\HwM p (d8 p) p.arity.length l hw m)):=by
 refine fqE Tryz.func48 ?_;intro O w0 E0 β0;have w1:=levels_fn p;have w2:=yq p l;by_cases h0:pk p l=0
 ·have ho:=mOk h0;have hE:levE p=0:=by unfold levE;rw [if_neg (by rw [ho.prog];simp),ho.doc];rfl
  have hL:levL p=d8 p:=by unfold levL;rw [if_pos ⟨ho.prog,ho.doc⟩]
  have hF:et p.arity l=0:=by rw [mErr_lev,if_neg (by rw [hE];simp)] at h0;exact h0
  rw [hE,hL] at w1;rw [hF] at w2;have w3:=builtO_fn p (d8 p) l ho.pr ho.fit ho.len ho.facts;repeat' (first|refine zs ?_|refine z21 ?_ (hc:=by apply w1)|refine z21 ?_ (hc:=by apply w2)|(exfalso;omega))
  apply ow;exact rfl;exact rfl;exact w3;exact rfl;exact rfl;exact rfl;rintro _ ⟨m,hw,b,rfl,⟨rfl,q1,q2,q3⟩|⟨rfl,rfl,rfl,q1⟩⟩
  ·clear w1 w2 w3;repeat' (first|refine zr ?_|(exfalso;omega))
   exact⟨.inl rfl,_,rfl,rfl,m,hw,0,rfl,.ok m h0 q1,λ_=>⟨q2,q3⟩⟩
  ·clear w1 w2 w3;repeat' (first|refine zs ?_|(exfalso;omega))
   refine au (cz 4 2 rfl) ?_;refine au (dz 5 4 rfl) ?_;repeat' (first|refine zr ?_|fail)
   exact⟨.inl rfl,_,rfl,rfl,[],[],2,rfl,.much h0 q1,λh=>absurd h (by simp)⟩
 ·have hE:=mErr_lev (p:=p) (l:=l);have hb:ModelR p l (pk p l) []:=.bad h0;by_cases hl:levE p=0
  ·rw [if_neg (by rw [hl];simp)] at hE;rw [hl] at w1;rw [hE] at h0 hb;generalize et p.arity l=e at *;repeat' (first|refine zs ?_|refine z21 ?_ (hc:=by apply w1)|refine z21 ?_ (hc:=by apply w2)|(refine zm ?_ ?_<;>intro hg)|(exfalso;omega))
   refine au (cz 4 2 rfl) ?_;refine au (dz 5 4 rfl) ?_;repeat' (first|refine zr ?_|fail)
   exact⟨.inl rfl,_,rfl,rfl,[],[],e,rfl,hb,λh=>absurd h h0⟩
  ·rw [if_pos hl] at hE;rw [hE] at h0 hb;generalize levE p=e at *;repeat' (first|refine zs ?_|refine z21 ?_ (hc:=by apply w1)|refine z21 ?_ (hc:=by apply w2)|(refine zm ?_ ?_<;>intro hg)|(exfalso;omega))
   refine au (cz 4 2 rfl) ?_;refine au (dz 5 4 rfl) ?_;repeat' (first|refine zr ?_|fail)
   exact⟨.inl rfl,_,rfl,rfl,[],[],e,rfl,hb,λh=>absurd h h0⟩
theorem mall_fn (p:Prg) (l:List Fct) :
  Fn 48 [db p,.d (.slice 2 (l.map aa))]
   (λr=>∃ (m:List Fct) (hw:List Stp) (e:Int),r = .tup [.d (.slice 2 (m.map aa)),.d (.slice 4 (hw.map ck)),.d (.int .i64 e)]/\ModelR p l e m/\(e=0->HwOk l m hw/\HwM p (d8 p) p.arity.length l hw m)) :=
 (mallO_fn p l).wk.imp λr ⟨r0,⟨m,hw,e,h0,h⟩,hr⟩=>⟨m,hw,e,by rw [hr,h0];rfl,h⟩
theorem yz (p:Prg) (l:List Fct) (e:Int) (m:List Fct) (hm:ModelR p l e m):Fn 10 [db p,.d (.slice 2 (l.map aa))] (λr=>r = .tup [.d (.own Bnds.B (.slice 2 (m.map aa))),.d (.int .i64 e)]):=by
 refine fqE Tryz.func10 ?_;intro O w0 E0 β0;have w1:=mallO_fn p l;repeat' (first|refine zs ?_|fail)
 apply ow;exact rfl;exact rfl;exact w1;exact rfl;exact rfl;exact rfl;rintro _ ⟨m',hw,e',rfl,q1,_⟩;obtain⟨rfl,rfl⟩:=q1.unique hm;repeat' (first|refine zr ?_|fail)
 exact⟨.inl rfl,_,rfl,rfl,rfl⟩
theorem model_fn (p:Prg) (l:List Fct) (e:Int) (m:List Fct) (hm:ModelR p l e m):Fn 10 [db p,.d (.slice 2 (l.map aa))] (λr=>r = .tup [.d (.slice 2 (m.map aa)),.d (.int .i64 e)]):=(yz p l e m hm).unown
theorem is1_fn (a b:Fct):Fn 97 ([c9 a,c9 b]++[]) (λr=>r = .d (.bool (Fct.same a b))):=by
 refine fqE Tryz.func97 ?_;intro O w0 E0 β0;have w1:=jr a b;repeat' (first|refine zr ?_|refine z21 ?_ (hc:=by apply w1)|fail)
 exact cm rfl rfl
theorem equalFunc_fn {f:FuncId} (l m:List Fct) (hp:∀ a b,Fn f ([c9 a,c9 b]++[]) (λr=>r = .d (.bool (Fct.same a b)))):Fn 96 [.d (.slice 2 (l.map aa)),.d (.slice 2 (m.map aa)),.fn f []] (λr=>r = .d (.bool (d7 Fct.same l m))):=by
 refine fqE Tryz.func96 ?_;intro O w0 E0 β0;refine c8 (t:=0) rfl λhb=>?_
 refine c8 (t:=1) rfl λhb2=>?_
 have ll:(l.map aa).length=l.length:=Aa _;have lm:(m.map aa).length=m.length:=Aa _;by_cases hl:l.length=m.length
 ·repeat' (first|refine zr ?_|(refine zm ?_ ?_<;>intro hg)|(exfalso;omega))
  refine ak (ι:=Nat) (λi=>⟨0,[(1,.d (.slice 2 (m.map aa))),(2,.fn f []),(15,.d (.slice 2 (l.map aa))),(16,.d (.int .i64 l.length)),(17,.d (.int .i64 i))],[]⟩)
   (λi=>i<=l.length/\d7 Fct.same l m=d7 Fct.same (l.drop i) (m.drop i)) (λi=>l.length-i) 0 ⟨Ai _,rfl⟩ (ag id ⟨rfl,rfl,rfl,by rw [<- ll];rfl,rfl,trivial⟩ trivial rfl rfl rfl rfl rfl rfl) ?_
  rintro i ⟨g1,g2⟩;dsimp only at g1 g2 ⊢;by_cases hi:i<l.length
  ·have w:=hp l[i] (m[i]'(by omega));rw [sameL_drop Fct.same l m i hi (by omega)] at g2;cases hs:Fct.same l[i] (m[i]'(by omega)) with
   | true =>
    rw [hs] at w;rw [hs,Bo] at g2;repeat' (first|refine zr ?_|(apply jp;exact rfl;exact rfl;exact rfl;exact rfl;apply w;exact rfl;(exact rfl);exact rfl;rintro _ rfl)|(refine zm ?_ ?_<;>intro hg)|(exfalso;omega))
    exact⟨i+1,⟨hi,g2⟩,er id,by omega⟩
   | false =>
    rw [hs] at w;rw [hs,Cm] at g2;repeat' (first|refine zr ?_|(apply jp;exact rfl;exact rfl;exact rfl;exact rfl;apply w;exact rfl;(exact rfl);exact rfl;rintro _ rfl)|(refine zm ?_ ?_<;>intro hg)|(exfalso;omega))
    exact⟨.inl rfl,_,rfl,rfl,by rw [g2];rfl⟩
  ·rw [sameL_end Fct.same l m i (by omega) (by omega)] at g2;repeat' (first|refine zr ?_|(refine zm ?_ ?_<;>intro hg)|(exfalso;omega))
   exact⟨.inl rfl,_,rfl,rfl,by rw [g2];rfl⟩
 ·rw [yo Fct.same l m hl];repeat' (first|refine zr ?_|(refine zm ?_ ?_<;>intro hg)|(exfalso;omega))
  exact⟨.inl rfl,_,rfl,rfl,rfl⟩
def isE (p:Prg) (l m:List Fct) (e:Int):Int:=if pk p l≠0 then pk p l else if et p.arity m≠0 then et p.arity m else e
theorem mis_fn (p:Prg) (l m:List Fct) (e:Int) (x:List Fct) (hx:ModelR p l e x) :
  Fn 44 [db p,.d (.slice 2 (l.map aa)),.d (.slice 2 (m.map aa))] (λr=>r = .tup [.d (.bool (decide (isE p l m e=0) && d7 Fct.same x (av m))),.d (.int .i64 (isE p l m e))]):=by
 refine fqE Tryz.func44 ?_;intro O w0 E0 β0;have w1:=levels_fn p;have w2:=yq p l;have w3:=yq p m;have hE:=mErr_lev (p:=p) (l:=l);by_cases h0:pk p l=0
 ·have ho:=mOk h0;have hEl:levE p=0:=by unfold levE;rw [if_neg (by rw [ho.prog];simp),ho.doc];rfl
  have hL:levL p=d8 p:=by unfold levL;rw [if_pos ⟨ho.prog,ho.doc⟩]
  have hF:et p.arity l=0:=by rw [hE,if_neg (by rw [hEl];simp)] at h0;exact h0
  rw [hEl,hL] at w1;rw [hF] at w2;by_cases hM:et p.arity m=0
  ·rw [hM] at w3;have hI:isE p l m e=e:=by unfold isE;rw [if_neg (by rw [h0];simp),if_neg (by rw [hM];simp)]
   rw [hI];obtain⟨m1,m2⟩:=zc hM;have w4:=built_fn p (d8 p) l ho.pr ho.fit ho.len ho.facts;have w5:=set_fn m (by omega) (λx hx=>by have:=rr ho.pr (m2 x hx);omega);have w6:=equalFunc_fn x (av m) is1_fn;repeat' (first|refine zs ?_|refine z21 ?_ (hc:=by apply w1)|refine z21 ?_ (hc:=by apply w2)|refine z21 ?_ (hc:=by apply w3)|(exfalso;omega))
   apply ow;exact rfl;exact rfl;exact w4;exact rfl;exact rfl;exact rfl;rintro _ ⟨m',hw,b,rfl,⟨rfl,q1,q2,q3⟩|⟨rfl,rfl,rfl,q1⟩⟩
   ·obtain⟨he,hx'⟩:=hx.unique (.ok m' h0 q1);subst he;subst hx';rw [decide_eq_true rfl,Bo];clear w1 w2 w3 w4;repeat' (first|refine zr ?_|refine z21 ?_ (hc:=by apply w5)|refine z21 ?_ (hc:=by apply w6)|(exfalso;omega))
    exact⟨.inl rfl,_,rfl,rfl,rfl⟩
   ·obtain⟨he,hx'⟩:=hx.unique (.much h0 q1);subst he;subst hx';clear w1 w2 w3 w4;repeat' (first|refine zr ?_|(exfalso;omega))
    exact⟨.inl rfl,_,rfl,rfl,rfl⟩
  ·have hI:isE p l m e=et p.arity m:=by unfold isE;rw [if_neg (by rw [h0];simp),if_pos hM]
   rw [hI];generalize et p.arity m=e2 at *;rw [decide_eq_false hM,Cm];repeat' (first|refine zr ?_|refine z21 ?_ (hc:=by apply w1)|refine z21 ?_ (hc:=by apply w2)|refine z21 ?_ (hc:=by apply w3)|(refine zm ?_ ?_<;>intro hg)|(exfalso;omega))
   exact⟨.inl rfl,_,rfl,rfl,rfl⟩
 ·have hI:isE p l m e=pk p l:=by unfold isE;rw [if_pos h0]
  rw [hI,decide_eq_false h0,Cm];by_cases hl:levE p=0
  ·rw [if_neg (by rw [hl];simp)] at hE;rw [hl] at w1;rw [hE] at h0 ⊢;generalize et p.arity l=e2 at *;repeat' (first|refine zr ?_|refine z21 ?_ (hc:=by apply w1)|refine z21 ?_ (hc:=by apply w2)|refine z21 ?_ (hc:=by apply w3)|(refine zm ?_ ?_<;>intro hg)|(exfalso;omega))
   exact⟨.inl rfl,_,rfl,rfl,rfl⟩
  ·rw [if_pos hl] at hE;rw [hE] at h0 ⊢;generalize levE p=e2 at *;repeat' (first|refine zr ?_|refine z21 ?_ (hc:=by apply w1)|refine z21 ?_ (hc:=by apply w2)|refine z21 ?_ (hc:=by apply w3)|(refine zm ?_ ?_<;>intro hg)|(exfalso;omega))
   exact⟨.inl rfl,_,rfl,rfl,rfl⟩
theorem ask_fn (p:Prg) (l:List Fct) (pred:Int) (args:List Int) (bound:List Bool) (e:Int) (x:List Fct) (hx:ModelR p l e x) :
  Fn 46 [db p,.d (.slice 2 (l.map aa)),.d (.int .i64 pred),.d (.slice 1 (args.map ah)),.d (.slice 1 (bound.map encBm))] (λr=>r = .tup [.d (.slice 2 ((if e=0 then av (ug x pred args bound) else []).map aa)),.d (.int .i64 e)]):=by
 refine fqE Tryz.func46 ?_;intro O w0 E0 β0;have w1:=model_fn p l e x hx;obtain⟨x1,x2,x3⟩:=hx.strict;by_cases he:e=0
 ·subst he;rw [if_pos rfl];have ho:=mOk hx.ok0;have w2:=match_fn x pred args bound (by omega) (λy hy=>by have:=rr ho.pr (x3 y hy);omega);repeat' (first|refine zr ?_|refine z21 ?_ (hc:=by apply w1)|refine z21 ?_ (hc:=by apply w2)|(exfalso;omega))
  exact⟨.inl rfl,_,rfl,rfl,rfl⟩
 ·rw [if_neg he];repeat' (first|refine zs ?_|refine z21 ?_ (hc:=by apply w1)|(refine zm ?_ ?_<;>intro hg)|(exfalso;omega))
  refine au (dz 10 2 rfl) ?_;repeat' (first|refine zr ?_|fail)
  exact⟨.inl rfl,_,rfl,rfl,rfl⟩
end
section
open Go Go.RowKit
variable [Bnds]
attribute [local irreducible] DW DS DL DQ Ev FnOk FnP dp bh DWr
abbrev dlL (n:Nat) (rose:Bool):Sl:=[(1,.loc 0 0),(4,.row 1),(5,.d (.bool rose)),(6,.d (.int .i64 n))]
abbrev dlH (p:Prg) (lv:List Int):Hp:=[(0,prgBk p),(1,.row 3 1 (lv.map ah))]
theorem levelsOf_fn (p:Prg) (hok:PrgOk p):Fn 111 [db p] (λres=>res = .tup [.d (.slice 1 ((d8 p).map ah)),.d (.bool (q8 p))]):=by
 refine fqE Tryz.func111 ?_;intro O w0 E0 β0;have la:(p.arity.map ah).length=p.arity.length:=Aa _;have lr:(p.rules.map a6).length=p.rules.length:=Aa _;have h10:=hok.preds;have h12:=hok.rules;repeat' (first|refine zs ?_|fail)
 refine ds_mk ((il p.arity.length).map ah) rfl rfl (by rw [la]) rfl rfl rfl rfl rfl rfl (by show 8*_<=_;omega) (by unfold maxLen;omega) (by unfold il;rw [List.map_replicate];rfl) rfl rfl ?_;repeat' (first|refine zs ?_|fail)
 refine ak (ι:=Nat×List Int×Bool) (λx=>⟨2,dlL x.1 x.2.2,dlH p x.2.1⟩)
  (λx=>x.1<=p.arity.length+1/\x.2.1=nf p.rules x.1 (il p.arity.length)/\x.2.1.length=p.arity.length/\(∀ v∈x.2.1,0<=v/\v<=x.1*48)/\∀ m,x.1=m+1->x.2.2 = !decide (nf p.rules (m+1) (il p.arity.length)=nf p.rules m (il p.arity.length)))
  (λx=>p.arity.length+1-x.1) (0,il p.arity.length,false) ⟨Ai _,rfl,by simp [il],λv hv=>by rw [List.eq_of_mem_replicate hv];constructor<;>simp,λm h=>by cases h⟩
  (er id) ?_
 rintro⟨n,lv0,rose⟩ ⟨g1,g2,g3,g4,g5⟩;dsimp only at g1 g2 g3 g4 g5 ⊢;by_cases hn:n<p.arity.length+1
 ·repeat' (first|refine zr ?_|(refine zm ?_ ?_<;>intro hg)|(exfalso;omega))
  refine ak (ι:=Nat×List Int×Bool) (λx=>⟨2,(7,.d (.int .i64 x.1))::dlL n x.2.2,dlH p x.2.1⟩)
   (λx=>x.1<=p.rules.length/\km p.rules lv0=km (p.rules.drop x.1) x.2.1/\RdL lv0 x.2.1 x.2.2 (n*48+x.1*4)) (λx=>p.rules.length-x.1)
   (0,lv0,false) ⟨Ai _,rfl,RdL.refl (λv hv=>by have:=g4 v hv;omega)⟩ (er id) ?_
  rintro⟨i,lv1,rose1⟩ ⟨f1,f2,f3⟩;dsimp only at f1 f2 f3 ⊢;by_cases hi:i<p.rules.length
  ·have hm:=Ag hi;have hrk:=hok.each _ hm;rw [Ao hi] at f2;repeat' (first|refine zs ?_|(refine zm ?_ ?_<;>intro hg)|(exfalso;omega))
   generalize p.rules[i]=r at hrk f2 ⊢;have hp1:=hrk.pred;have hb4:=hrk.body;have hlt:=hrk.lits;have lb:(r.body.map ay).length=r.body.length:=Aa _;have f2:km p.rules lv0=km (p.rules.drop (i+1)) (r.body.foldl (lvLit r.fold r.pred) lv1):=f2;refine ak (ι:=Nat×List Int×Bool) (λx=>⟨3,(9,.d (.int .i64 x.1))::(8,.loc 2 0)::(7,.d (.int .i64 i))::dlL n x.2.2,(2,nu r)::dlH p x.2.1⟩)
    (λx=>x.1<=r.body.length/\km p.rules lv0=km (p.rules.drop (i+1)) ((r.body.drop x.1).foldl (lvLit r.fold r.pred) x.2.1)/\RdL lv0 x.2.1 x.2.2 (n*48+i*4+x.1)) (λx=>r.body.length-x.1)
    (0,lv1,rose1) ⟨Ai _,f2,f3.more (by simp)⟩ (er id) ?_
   clear f2 f3;rintro⟨k,lv2,rose2⟩ ⟨e1,e2,e3⟩;dsimp only at e1 e2 e3 ⊢;have l2:(lv2.map ah).length=lv2.length:=Aa _;have hl2:lv2.length=lv0.length:=e3.1.1.symm;by_cases hk:k<r.body.length
   ·have hxm:=Ag hk;obtain⟨⟨k1,k2⟩,kp⟩:=hlt _ hxm;rw [Ao hk,List.foldl_cons] at e2;by_cases hkind:2<r.body[k].kind
    ·rw [show lvLit r.fold r.pred lv2 r.body[k]=lv2 from if_pos hkind] at e2;repeat' (first|refine z0 ?_|refine z12 ?_|apply jj|(apply ke;exact rfl;exact rfl;(apply ig;(omega));exact rfl;exact rfl;(exact j9 rfl);exact rfl;exact rfl;exact rfl;exact rfl;exact rfl;exact rfl)|refine zs ?_|(refine zm ?_ ?_<;>intro hg)|(exfalso;omega))
     exact⟨(k+1,lv2,rose2),⟨by dsimp only;omega,e2,e3.more (by omega)⟩,er id,by show r.body.length-(k+1)<r.body.length-k;omega⟩
    ·have hh:c7 r.body[k]=true:=by
      have h12:r.body[k].kind=1∨r.body[k].kind=2:=by omega
      unfold c7;rcases h12 with h|h<;>simp [h]
     obtain⟨q1,q2⟩:=kp hh;have hA:=e3.2.2.2 (lv2[r.body[k].pred.toNat]'(by omega)) (Ag _);have hlit:=lvLit_if (f:=r.fold) (pr:=r.pred) (lv:=lv2) hkind (by omega) (by omega);have hset:=λv=>e3.set (i:=r.pred.toNat) (v:=v) (by omega)
     have hNf:ks r.fold r.body[k]=if r.body[k].kind=2∨r.fold≠0 then 1 else 0:=rfl
     have hfold:=hrk.fold;repeat' (first|refine z0 ?_|refine z12 ?_|apply jj|(apply ke;exact rfl;exact rfl;(apply ig;(omega));exact rfl;exact rfl;(exact j9 rfl);exact rfl;exact rfl;exact rfl;exact rfl;exact rfl;exact rfl)|refine zs ?_|(refine zm ?_ ?_<;>intro hg)|(exfalso;omega))
     all_goals first
      | (have hL:ks r.fold r.body[k]=1:=by rw [hNf,if_pos (by omega)]
         rw [hlit,hL,if_pos (by omega)] at e2;exact⟨(k+1,_,true),⟨by dsimp only;omega,e2,(hset _ (by omega) (by omega)).more (by omega)⟩,er id,by show r.body.length-(k+1)<r.body.length-k;omega⟩)
      | (have hL:ks r.fold r.body[k]=1:=by rw [hNf,if_pos (by omega)]
         rw [hlit,hL,if_neg (by omega)] at e2;exact⟨(k+1,lv2,rose2),⟨by dsimp only;omega,e2,e3.more (by omega)⟩,er id,by show r.body.length-(k+1)<r.body.length-k;omega⟩)
      | (have hL:ks r.fold r.body[k]=0:=by rw [hNf,if_neg (by omega)]
         rw [hlit,hL,Int.add_zero,if_pos (by omega)] at e2;exact⟨(k+1,_,true),⟨by dsimp only;omega,e2,(hset _ (by omega) (by omega)).more (by omega)⟩,er id,by show r.body.length-(k+1)<r.body.length-k;omega⟩)
      | (have hL:ks r.fold r.body[k]=0:=by rw [hNf,if_neg (by omega)]
         rw [hlit,hL,Int.add_zero,if_neg (by omega)] at e2;exact⟨(k+1,lv2,rose2),⟨by dsimp only;omega,e2,e3.more (by omega)⟩,er id,by show r.body.length-(k+1)<r.body.length-k;omega⟩)
   ·rw [show r.body.drop k=[] from Ax (by omega)] at e2;repeat' (first|refine z0 ?_|refine z12 ?_|apply jj|(apply ke;exact rfl;exact rfl;(apply ig;(omega));exact rfl;exact rfl;(exact j9 rfl);exact rfl;exact rfl;exact rfl;exact rfl;exact rfl;exact rfl)|refine zs ?_|(refine zm ?_ ?_<;>intro hg)|(exfalso;omega))
    exact⟨(i+1,lv2,rose2),⟨by dsimp only;omega,e2,e3.more (by omega)⟩,er id,by show p.rules.length-(i+1)<p.rules.length-i;omega⟩
  ·rw [Ax (by omega)] at f2;have f2:km p.rules lv0=lv1:=f2;repeat' (first|refine zs ?_|(refine zm ?_ ?_<;>intro hg)|(exfalso;omega))
   have hsucc:=xm p.rules n (il p.arity.length);rw [<- g2,f2] at hsucc;refine⟨(n+1,lv1,rose1),⟨by dsimp only;omega,hsucc.symm,by dsimp only;rw [<- f3.1.1];exact g3,λv hv=>by have:=f3.2.2.2 v hv;dsimp only;omega,λm hm=>?_⟩,er id,by show p.arity.length+1-(n+1)<p.arity.length+1-n;omega⟩
   cases hm;dsimp only;rw [hsucc,<- g2];cases rose1 with
   | true=>rw [decide_eq_false (f3.2.2.1 rfl)];rfl
   | false=>rw [decide_eq_true (f3.2.1 rfl)];rfl
 ·have hne:n=p.arity.length+1:=by omega
  subst hne;have hro:=g5 _ rfl;repeat' (first|refine zs ?_|(refine zm ?_ ?_<;>intro hg)|(exfalso;omega))
  refine au (cr 2 rfl rfl rfl) ?_;repeat' (apply dv)
  have hd:q8 p = !rose:=by
   rw [hro,Bool.not_not,xm];rfl
  refine sg rfl ⟨by rw [g2];rfl,by rw [hd]⟩
variable [Bnds]
theorem setF_self {l:List Fct} (h:Strict l):av l=l:=j4 (a8 l).1 h (a8 l).2
structure HdOk (p:Prg) (lv:List Int) (n:Nat) (S hs:List Fct) (i:Nat):Prop where
 src:∀ x∈hs,∃ r∈p.rules,lv.getD r.pred.toNat 0=n/\x∈hdW S r
 all:∀ j (hj:j<p.rules.length),j<i->lv.getD (p.rules[j]).pred.toNat 0=n->manyW S p.rules[j]=true/\∀ x∈hdW S p.rules[j],x∈hs
 len:hs.length<=2000*i
attribute [local irreducible] DT
theorem modelOf_fn (p:Prg) (l:List Fct) (ho:MOk p l) :
  Fn 58 [db p,.d (.slice 2 (l.map aa))]
   (λr=>∃ (m:List Fct) (b:Bool),r = .tup [.d (.slice 2 (m.map aa)),.d (.bool b)]/\((b=true/\RunTo p (d8 p) l p.arity.length m)∨(b=false/\m=[]/\¬ ∃ m,RunTo p (d8 p) l p.arity.length m))):=by
 refine fqE Tryz.func58 ?_;intro O w0 E0 β0;have hp:=ho.pr;have hlv:=ho.fit;have hll:=ho.len;have la:(p.arity.map ah).length=p.arity.length:=Aa _;have lr:(p.rules.map a6).length=p.rules.length:=Aa _;have hal:=hp.alen;have hrl:=hp.rlen;have w1:=levelsOf_fn p (o5 ho.prog);have w2:=wu l (by omega);generalize d8 p=lv at *;have llv:(lv.map ah).length=lv.length:=Aa _;repeat' (first|refine zs ?_|refine z21 ?_ (hc:=by apply w1)|refine z21 ?_ (hc:=by apply w2)|fail)
 refine ak (ι:=Nat×List Fct) (λc=>⟨1,[(2,.loc 0 0),(6,.d (.slice 1 (lv.map ah))),(8,.d (.slice 2 (c.2.map aa))),(9,.d (.int .i64 c.1))],
   [(0,.blk 26 [.d (.slice 1 (p.arity.map ah)),.d (.slice 1 (p.names.map dl)),.d (.slice 5 (p.rules.map a6))])]⟩)
  (λc=>c.1<=p.arity.length/\RunTo p lv l c.1 c.2) (λc=>p.arity.length-c.1) (0,av l) ⟨Ai _,rfl⟩
  (er id) ?_
 rintro⟨n,m0⟩ ⟨g1,g2⟩;dsimp only at g1 g2 ⊢;obtain⟨s1,s2,s3,s4⟩:=RunTo.ok ho.facts ho.len g2;have hV:=lvV_ok hp hlv n m0;by_cases hn:n<p.arity.length
 ·clear w1 w2;repeat' (first|refine zr ?_|(refine zm ?_ ?_<;>intro hg)|(exfalso;omega))
  refine ak (ι:=Int×List Fct) (λc=>⟨1,[(2,.loc 0 0),(6,.d (.slice 1 (lv.map ah))),(8,.d (.slice 2 (c.2.map aa))),(9,.d (.int .i64 n)),(10,.d (.int .i64 c.1))],
    [(0,.blk 26 [.d (.slice 1 (p.arity.map ah)),.d (.slice 1 (p.names.map dl)),.d (.slice 5 (p.rules.map a6))])]⟩)
   (λc=>InvM (lvV p lv n m0) m0 c.2/\(c.1 = -1∨∃ S1,c.1=(S1.length:Int)/\Strict S1/\(∀ x∈S1,x∈c.2)/\∀ r∈(lvV p lv n m0).rs,manyW S1 r=true/\∀ x∈hdW S1 r,x∈c.2)) (λc=>2*(61-c.2.length)+if c.1<c.2.length then 1 else 0) (-1,m0) ⟨p9 s1 ⟨s3,λ_ _=>Iff.rfl⟩ s2,.inl rfl⟩
   (er id) ?_
  rintro⟨many,S⟩ ⟨q1,q2⟩;dsimp only at q1 q2 ⊢;have lS:(S.map aa).length=S.length:=Aa _;have hS60:=q1.len;repeat' ((fail_if_success (apply cp 10));(first|refine zs ?_|(refine zm ?_ ?_<;>intro hg)|fail))
  ·refine au (dm (t:=11) 37 2 rfl) ?_;repeat' (first|refine zs ?_|fail)
   refine ak (ι:=Nat×List Fct) (λc=>⟨2,[(2,.loc 0 0),(6,.d (.slice 1 (lv.map ah))),(8,.d (.slice 2 (S.map aa))),(9,.d (.int .i64 n)),(10,.d (.int .i64 S.length)),(11,.row 1),(12,.d (.int .i64 c.1))],
     [(0,.blk 26 [.d (.slice 1 (p.arity.map ah)),.d (.slice 1 (p.names.map dl)),.d (.slice 5 (p.rules.map a6))]),(1,.row 37 2 (c.2.map aa))]⟩)
    (λc=>c.1<=p.rules.length/\HdOk p lv n S c.2 c.1) (λc=>p.rules.length-c.1) (0,[]) ⟨Ai _,⟨λx hx=>by simp at hx,λj _ h=>absurd h (A6 j),by simp⟩⟩
    (ag id ⟨rfl,rfl,rfl,rfl,by rw [<- lS];rfl,rfl,rfl,trivial⟩ ⟨rfl,rfl,trivial⟩ rfl rfl rfl rfl rfl rfl) ?_
   rintro⟨i,hs⟩ ⟨r1,r2⟩;dsimp only at r1 r2 ⊢;have lhs:(hs.map aa).length=hs.length:=Aa _;have hsl:=r2.len;by_cases hi:i<p.rules.length
   ·have hr:=hp.rul _ (Ag hi);have hpr:=hr.pred;have hlvl:=hlv.len;have hgd:lv.getD (p.rules[i]).pred.toNat 0=lv[(p.rules[i]).pred.toNat]'(by omega):=by rw [List.getD,Ab (by omega)];rfl
    have hok:=raw_ok hr hp.ar q1.a.1 q1.strict.nodup;have hSS:=setF_self q1.strict;have w1:=waysOf_fn S p.rules[i] hS60 (by rw [hSS];exact oq hr hp.ar q1.a.1);rw [hSS] at w1;have w2:=headsOf_fn p.arity p.rules[i] (dg S p.rules[i]) hok;have hhl:(av (ep p.rules[i] (dg S p.rules[i]))).length<=2000:=by
     refine Ar (fu _) ?_;rw [mr];exact Ar (List.length_filterMap_le _ _) hok.many
    have lhd:((av (ep p.rules[i] (dg S p.rules[i]))).map aa).length=(av (ep p.rules[i] (dg S p.rules[i]))).length:=Aa _;by_cases hlev:lv.getD (p.rules[i]).pred.toNat 0=n
    ·have hrs:p.rules[i]∈(lvV p lv n m0).rs:=List.mem_filter.2 ⟨Ag hi,decide_eq_true hlev⟩;rw [hgd] at hlev;cases hmm:manyW S p.rules[i] with
     | false =>
      rw [hmm] at w1;clear w2;repeat' (first|refine zs ?_|refine z21 ?_ (hc:=by apply w1)|(refine zm ?_ ?_<;>intro hg)|(exfalso;omega))
      refine au (dz 4 2 rfl) ?_;repeat' (first|refine zr ?_|fail)
      exact⟨.inl rfl,_,rfl,rfl,[],false,rfl,.inr ⟨rfl,rfl,run_none hn g2 (no_many hV q1 hrs hmm)⟩⟩
     | true =>
      rw [hmm] at w1;repeat' (first|refine zs ?_|refine z21 ?_ (hc:=by apply w1)|refine z21 ?_ (hc:=by apply w2)|(refine zm ?_ ?_<;>intro hg)|(exfalso;omega))
      refine⟨(i+1,hs++hdW S p.rules[i]),⟨hi,λx hx=>?_,λj hj hji hl=>?_,?_⟩,ag (λj=>match j with|1=>2|j=>j) ⟨rfl,rfl,rfl,rfl,rfl,rfl,rfl,trivial⟩ ⟨rfl,by dsimp only;rw [List.map_append];rfl,trivial⟩ rfl rfl rfl rfl rfl rfl,by dsimp only;omega⟩
      ·rcases List.mem_append.1 hx with hx|hx
       ·exact r2.src x hx
       ·exact⟨_,Ag hi,hgd.trans hlev,hx⟩
      ·by_cases he:j=i
       ·subst he;exact⟨hmm,λx hx=>B7 _ hx⟩
       ·obtain⟨a1,a2⟩:=r2.all j hj (by omega) hl;exact⟨a1,λx hx=>A0 _ (a2 x hx)⟩
      ·dsimp only;rw [Ap];show hs.length+(av (ep p.rules[i] (dg S p.rules[i]))).length<=_;omega
    ·rw [hgd] at hlev;clear w1 w2;repeat' (first|refine zs ?_|(refine zm ?_ ?_<;>intro hg)|(exfalso;omega))
     exact⟨(i+1,hs),⟨hi,r2.src,λj hj hji hl=>by
      by_cases he:j=i
      ·subst he;exact absurd (hgd.symm.trans hl) hlev
      ·exact r2.all j hj (by omega) hl,by dsimp only;omega⟩,er id,by dsimp only;omega⟩
   ·have hil:i=p.rules.length:=by omega
    subst hil;have hHn:=a8 (df hs S);have hHl:(av (df hs S)).length<=hs.length:=Ar (fu _) (List.length_filter_le _ _);have w3:=minusOf_fn hs S (by omega);have w4:=unionOf_fn S (av (df hs S)) (by omega);have lH:((av (df hs S)).map aa).length=(av (df hs S)).length:=Aa _;have hsrc:∀ x∈av (df hs S),∃ r∈(lvV p lv n m0).rs,∃ m',InvM (lvV p lv n m0) m0 m'/\x∈(lvV p lv n m0).hd m' r:=by
     intro x hx;obtain⟨r,a1,a2,a3⟩:=r2.src x (List.mem_filter.1 ((hHn.2 x).1 hx)).1;exact⟨r,List.mem_filter.2 ⟨a1,decide_eq_true a2⟩,S,q1,a3⟩
    repeat' (first|refine zs ?_|(refine zm ?_ ?_<;>intro hg)|(exfalso;omega))
    refine jw (cr 74 rfl rfl rfl) ?_;repeat' (first|refine zs ?_|refine z21 ?_ (hc:=by apply w3)|refine z21 ?_ (hc:=by apply w4)|(refine zm ?_ ?_<;>intro hg)|(exfalso;omega))
    ·refine au (dz 4 2 rfl) ?_;repeat' (first|refine zr ?_|fail)
     refine⟨.inl rfl,_,rfl,rfl,[],false,rfl,.inr ⟨rfl,rfl,run_none hn g2 (no_room hV q1 hsrc hHn.1.nodup (λx hx hxS=>?_) (by omega))⟩⟩
     have:=(List.mem_filter.1 ((hHn.2 x).1 hx)).2
     rw [hasF_iff.2 hxS] at this;cases this
    ·have hU:=a8 (S++av (df hs S));have hUl:=fu (S++av (df hs S));rw [Ap] at hUl;have hinv:=inv_put hV q1 hsrc (by omega);have hle:S.length<=(av (S++av (df hs S))).length:=mj q1.strict.nodup λx hx=>(hU.2 x).2 (A0 _ hx)
     have hl60:=hinv.len;refine⟨((S.length:Int),av (S++av (df hs S))),⟨hinv,.inr ⟨S,rfl,q1.strict,λx hx=>(hU.2 x).2 (A0 _ hx),λr hr=>?_⟩⟩,er id,?_⟩
     ·obtain⟨hm,hl⟩:=List.mem_filter.1 hr;obtain⟨j,hj,rfl⟩:=List.mem_iff_getElem.1 hm;obtain⟨a1,a2⟩:=r2.all j hj hj (of_decide_eq_true hl);refine⟨a1,λx hx=>(hU.2 x).2 ?_⟩
      by_cases hxS:hasF S x=true
      ·exact A0 _ (hasF_iff.1 hxS)
      ·exact B7 _ ((hHn.2 x).2 (List.mem_filter.2 ⟨a2 x hx,by simpa using hxS⟩))
     ·dsimp only;rw [if_pos (by omega:many<(S.length:Int))];split<;>omega
  ·rcases q2 with q2|⟨S1,e1,e2,e3,e4⟩
   ·exfalso;omega
   ·have he:=same_len e2 q1.strict e3 (by omega);subst he;exact⟨(n+1,S1),⟨hn,m0,g2,sw q1 (λr hr=>(e4 r hr).1) λr hr=>(e4 r hr).2⟩,er id,by dsimp only;omega⟩
 ·have hnn:n=p.arity.length:=by omega
  subst hnn;repeat' (first|refine zr ?_|(refine zm ?_ ?_<;>intro hg)|(exfalso;omega))
  exact⟨.inl rfl,_,rfl,rfl,m0,true,rfl,.inl ⟨rfl,g2⟩⟩
variable [Bnds]
theorem checkModel_fn (p:Prg) (l:List Fct):Fn 57 [db p,.d (.slice 2 (l.map aa))] (λr=>r = .d (.int .i64 (pk p l))):=by
 refine fqE Tryz.func57 ?_;intro O w0 E0 β0;have w1:=rcheck_fn p;have w3:=checkFacts_fn p l;unfold pk;by_cases h0:dw dx p=0
 ·have w2:=levelsOf_fn p (o5 h0);rw [h0] at w1 ⊢;rw [if_neg (by simp)];cases hd:q8 p with
  | true =>
   rw [hd] at w2;rw [if_neg (by simp)];repeat' (first|refine zr ?_|refine z21 ?_ (hc:=by apply w1)|refine z21 ?_ (hc:=by apply w2)|refine z21 ?_ (hc:=by apply w3)|(exfalso;omega))
   exact⟨.inl rfl,_,rfl,rfl,rfl⟩
  | false =>
   rw [hd] at w2;rw [if_pos rfl];repeat' (first|refine zr ?_|refine z21 ?_ (hc:=by apply w1)|refine z21 ?_ (hc:=by apply w2)|(exfalso;omega))
   exact⟨.inl rfl,_,rfl,rfl,rfl⟩
 ·rw [if_pos h0];generalize dw dx p=e at *;clear w3;repeat' (first|refine zr ?_|refine z21 ?_ (hc:=by apply w1)|(refine zm ?_ ?_<;>intro hg)|(exfalso;omega))
  exact⟨.inl rfl,_,rfl,rfl,rfl⟩
theorem fullModel_fn (p:Prg) (l:List Fct) (e:Int) (m:List Fct) (hm:ModelR p l e m):Fn 17 [db p,.d (.slice 2 (l.map aa))] (λr=>r = .tup [.d (.slice 2 (m.map aa)),.d (.int .i64 e)]):=by
 refine fqE Tryz.func17 ?_;intro O w0 E0 β0;have w1:=checkModel_fn p l;by_cases h0:pk p l=0
 ·rw [h0] at w1;have w2:=modelOf_fn p l (mOk h0);repeat' (first|refine zs ?_|refine z21 ?_ (hc:=by apply w1)|(exfalso;omega))
  apply ow;exact rfl;exact rfl;exact w2;exact rfl;exact rfl;exact rfl;rintro _ ⟨m',b,rfl,⟨rfl,q1⟩|⟨rfl,rfl,q1⟩⟩
  ·obtain⟨he,hx'⟩:=hm.unique (.ok m' h0 q1);subst he;subst hx';clear w1 w2;repeat' (first|refine zr ?_|(exfalso;omega))
   exact⟨.inl rfl,_,rfl,rfl,rfl⟩
  ·obtain⟨he,hx'⟩:=hm.unique (.much h0 q1);subst he;subst hx';clear w1 w2;repeat' (first|refine zs ?_|(exfalso;omega))
   refine au (dz 4 2 rfl) ?_;repeat' (first|refine zr ?_|fail)
   exact⟨.inl rfl,_,rfl,rfl,rfl⟩
 ·obtain⟨he,hx'⟩:=hm.unique (.bad h0);subst he;subst hx';generalize pk p l=e at *;repeat' (first|refine zs ?_|refine z21 ?_ (hc:=by apply w1)|(refine zm ?_ ?_<;>intro hg)|(exfalso;omega))
  refine au (dz 4 2 rfl) ?_;repeat' (first|refine zr ?_|fail)
  exact⟨.inl rfl,_,rfl,rfl,rfl⟩
theorem factsAre_fn (l:List Fct) (e w:Int) (want:List Fct):Fn 18 [.d (.slice 2 (l.map aa)),.d (.int .i64 e),.d (.int .i64 w),.d (.slice 2 (want.map aa))] (λr=>r = .d (.bool (decide (e=w) && d7 Fct.same l (if w≠0 then [] else want)))):=by
 refine fqE Tryz.func18 ?_;intro O w0 E0 β0;have w1:=fa l want;have w2:=fa l [];by_cases hw:w=0
 ·rw [if_neg (by simp [hw])];clear w2;by_cases he:e=w
  ·rw [decide_eq_true he,Bo];repeat' (first|refine zr ?_|refine z21 ?_ (hc:=by apply w1)|(refine zm ?_ ?_<;>intro hg)|(exfalso;omega))
   exact⟨.inl rfl,_,rfl,rfl,rfl⟩
  ·rw [decide_eq_false he,Cm];repeat' (first|refine zr ?_|refine z21 ?_ (hc:=by apply w1)|(refine zm ?_ ?_<;>intro hg)|(exfalso;omega))
   exact⟨.inl rfl,_,rfl,rfl,rfl⟩
 ·rw [if_pos hw];clear w1;by_cases he:e=w
  ·rw [decide_eq_true he,Bo];repeat' ((fail_if_success (apply cp 3));(first|refine zs ?_|(refine zm ?_ ?_<;>intro hg)|fail))
   all_goals try (exfalso;omega)
   refine au (dz 3 2 rfl) ?_;repeat' (first|refine zr ?_|refine z21 ?_ (hc:=by apply w2)|(refine zm ?_ ?_<;>intro hg)|(exfalso;omega))
   exact⟨.inl rfl,_,rfl,rfl,rfl⟩
  ·rw [decide_eq_false he,Cm];repeat' ((fail_if_success (apply cp 3));(first|refine zs ?_|(refine zm ?_ ?_<;>intro hg)|fail))
   all_goals try (exfalso;omega)
   refine au (dz 3 2 rfl) ?_;repeat' (first|refine zr ?_|refine z21 ?_ (hc:=by apply w2)|(refine zm ?_ ?_<;>intro hg)|(exfalso;omega))
   exact⟨.inl rfl,_,rfl,rfl,rfl⟩
variable [Bnds]
variable [Bnds]
def i7:Rul:=⟨1,[⟨0,0⟩,⟨1,0⟩],0,[⟨1,0,0,[⟨0,0⟩,⟨1,0⟩]⟩],2⟩
theorem ja:smallP.rules=[i7,smallR]:=rfl
theorem small_doc:q8 smallP=true:=by kernel_rfl
theorem wg:d8 smallP=[0,0]:=by kernel_rfl
theorem ym:pk smallP pairsF=0:=by
 unfold pk;rw [if_neg (by rw [show dw dx smallP=0 by kernel_rfl];simp),if_neg (by rw [small_doc];simp)];kernel_rfl
theorem uc {S:List Fct} {r:Rul} {o:List (List Int)} (h:dt S r.body (jl r.body) (e0 r.vars.toNat)=o) (hs:SortW o) (hl:o.length<=2000):manyW S r=true/\dg S r=o:=by
 have hw:pn S r.vars.toNat r.body=o:=(r7 hs (by rw [h])).symm;have hm:manyW S r=true:=by unfold manyW;rw [hw];exact decide_eq_true hl
 exact⟨hm,by unfold dg;rw [if_pos hm,hw]⟩
theorem sortW_two {a b:List Int} (h:dj a b<=0):SortW [a,b]:=List.pairwise_cons.2 ⟨λx hx=>by rw [List.mem_singleton] at hx;subst hx;exact h,Dt _ _⟩
def midF:List Fct:=[⟨0,[1,2]⟩,⟨0,[2,3]⟩,⟨1,[1,2]⟩,⟨1,[2,3]⟩]
theorem q_pairs:manyW pairsF i7=true/\dg pairsF i7=[[1,2],[2,3]]:=uc (by kernel_rfl) (sortW_two (by decide)) (by simp)
theorem q_full:manyW fullF i7=true/\dg fullF i7=[[1,2],[2,3]]:=uc (by kernel_rfl) (sortW_two (by decide)) (by simp)
theorem r_mid:manyW midF smallR=true/\dg midF smallR=[[1,2,3]]:=uc (by kernel_rfl) (Dt _ _) (by simp)
theorem r_full:manyW fullF smallR=true/\dg fullF smallR=[[1,2,3]]:=uc (by kernel_rfl) (Dt _ _) (by simp)
theorem small_fct:∀ x∈fullF,FctOk smallP.arity x:=by
 intro x hx;have:b8 (kt smallP.arity) fullF=0:=by kernel_rfl
 exact factE_ok (ia this x hx)
theorem small_strict:Strict fullF:=by
 have:=(a8 fullF).1
 rw [show av fullF=fullF by kernel_rfl] at this;exact this
theorem i5:ModelR smallP pairsF 0 fullF:=by
 have ho:=mOk ym;have hV:=lvV_ok ho.pr ho.fit 0 pairsF;have hset0:av pairsF=pairsF:=by kernel_rfl
 have hst0:Strict pairsF:=by
  have:=(a8 pairsF).1
  rw [hset0] at this;exact this
 have i0:InvM (lvV smallP (d8 smallP) 0 pairsF) pairsF pairsF:=p9 hst0 ⟨ho.facts,λ_ _=>Iff.rfl⟩ (by decide);have hQ:i7∈(lvV smallP (d8 smallP) 0 pairsF).rs:=List.mem_filter.2 ⟨by rw [ja];simp,by rw [wg];decide⟩;have hR:smallR∈(lvV smallP (d8 smallP) 0 pairsF).rs:=List.mem_filter.2 ⟨by rw [ja];simp,by rw [wg];decide⟩;have hq:hdW pairsF i7=[⟨1,[1,2]⟩,⟨1,[2,3]⟩]:=by unfold hdW;rw [q_pairs.2];kernel_rfl
 have hr:hdW midF smallR=[⟨1,[1,3]⟩]:=by unfold hdW;rw [r_mid.2];kernel_rfl
 have hqf:hdW fullF i7=[⟨1,[1,2]⟩,⟨1,[2,3]⟩]:=by unfold hdW;rw [q_full.2];kernel_rfl
 have hrf:hdW fullF smallR=[⟨1,[1,3]⟩]:=by unfold hdW;rw [r_full.2];kernel_rfl
 have i1:=inv_put hV i0 (H:=[⟨1,[1,2]⟩,⟨1,[2,3]⟩]) (λx hx=>⟨i7,hQ,pairsF,i0,by show x∈hdW pairsF i7;rw [hq];exact hx⟩) (by decide);rw [show av (pairsF++[⟨1,[1,2]⟩,⟨1,[2,3]⟩])=midF by kernel_rfl] at i1;have i2:=inv_put hV i1 (H:=[⟨1,[1,3]⟩]) (λx hx=>⟨smallR,hR,midF,i1,by show x∈hdW midF smallR;rw [hr];exact hx⟩) (by decide);rw [show av (midF++[⟨1,[1,3]⟩])=fullF by kernel_rfl] at i2;have hfit0:Fit (lvV smallP (d8 smallP) 0 pairsF) pairsF fullF:=by
  have key:∀ r∈(lvV smallP (d8 smallP) 0 pairsF).rs,manyW fullF r=true/\∀ x∈hdW fullF r,x∈fullF:=by
   intro r hr';have hm:=(List.mem_filter.1 hr').1;rw [ja] at hm;simp only [Be,Bz,or_false] at hm;rcases hm with rfl|rfl
   ·refine⟨q_full.1,λx hx=>?_⟩
    rw [hqf] at hx;simp only [Be,Bz,or_false] at hx;rcases hx with rfl|rfl<;>simp [fullF]
   ·refine⟨r_full.1,λx hx=>?_⟩
    rw [hrf] at hx;simp only [Be,Bz,or_false] at hx;subst hx;simp [fullF]
  exact sw i2 (λr hr=>(key r hr).1) λr hr=>(key r hr).2
 have hfit1:Fit (lvV smallP (d8 smallP) 1 fullF) fullF fullF:=by
  have hno:∀ r∈(lvV smallP (d8 smallP) 1 fullF).rs,False:=by
   intro r hr';obtain⟨hm,hl⟩:=List.mem_filter.1 hr';rw [ja] at hm;simp only [Be,Bz,or_false] at hm;rw [wg] at hl;rcases hm with rfl|rfl<;>exact absurd (of_decide_eq_true hl) (by decide)
  exact sw (p9 small_strict ⟨small_fct,λ_ _=>Iff.rfl⟩ (by decide)) (λr hr=>(hno r hr).elim) λr hr=>(hno r hr).elim
 refine .ok fullF ym ⟨fullF,⟨pairsF,?_,?_⟩,?_⟩
 ·show pairsF=av pairsF;exact hset0.symm
 ·exact hfit0
 ·exact hfit1
theorem modelBegun_fn:Fn 8 [] (λr=>r = .d (.bool true)):=by
 refine fqE Tryz.func8 ?_;intro O w0 E0 β0;have h1:=sn;have h2:=lpairs_fn;have h3:=lfull_fn;have h4:=model_fn smallP pairsF 0 fullF i5;have h5:=mis_fn smallP pairsF fullF 0 fullF i5;rw [show isE smallP pairsF fullF 0=0 by unfold isE;rw [if_neg (by rw [ym];simp),if_neg (by rw [show et smallP.arity fullF=0 by kernel_rfl];simp)]] at h5;rw [show (decide ((0:Int)=0) && d7 Fct.same fullF (av fullF))=true by kernel_rfl] at h5;have h6:=mis_fn smallP pairsF (fullF.drop 1) 0 fullF i5;rw [show isE smallP pairsF (fullF.drop 1) 0=0 by unfold isE;rw [if_neg (by rw [ym];simp),if_neg (by rw [show et smallP.arity (fullF.drop 1)=0 by kernel_rfl];simp)]] at h6;rw [show (decide ((0:Int)=0) && d7 Fct.same fullF (av (fullF.drop 1)))=false by kernel_rfl] at h6;have h7:=ask_fn smallP pairsF 1 [1,0] [true] 0 fullF i5;rw [if_pos rfl,show av (ug fullF 1 [1,0] [true])=[⟨1,[1,2]⟩,⟨1,[1,3]⟩] by kernel_rfl] at h7;have h8:=fa fullF fullF;rw [sameF_eq] at h8;have h9:=fa [⟨1,[1,2]⟩,⟨1,[1,3]⟩] [⟨1,[1,2]⟩,⟨1,[1,3]⟩];rw [sameF_eq] at h9;have lf:(fullF.map aa).length=5:=rfl;have lf2:fullF.length=5:=rfl;repeat' (first|(apply nr;exact rfl;exact rfl;exact rfl;exact rfl;exact rfl;exact rfl;(refine⟨?_,?_,?_⟩<;>(omega));(first|((with_reducible apply hv_drop);(exact bw _))|exact rfl);exact rfl;exact rfl)|refine zr ?_|refine z21 ?_ (hc:=by apply h1)|refine z21 ?_ (hc:=by apply h2)|refine z21 ?_ (hc:=by apply h3)|refine z21 ?_ (hc:=by apply h4)|refine z21 ?_ (hc:=by apply h5)|refine z21 ?_ (hc:=by apply h6)|refine z21 ?_ (hc:=by apply h7)|refine z21 ?_ (hc:=by apply h8)|refine z21 ?_ (hc:=by apply h9)|fail)
 exact⟨.inl rfl,_,rfl,rfl,rfl⟩
end
section
open Go Go.RowKit
variable [Bnds]
section
variable {Γ : Ctx} {l : List Oper} {κ c : Nat} {ro : Option Nat}
def noQ:Exit->Act->World->Prop:=λ_ _ _=>False
theorem xo:¬ LetsOut noQ:=by
 rintro⟨_,_,h⟩;exact h
theorem wpOp_in2 {P:Program} {Q:Exit->Act->World->Prop} (hn:dd l=true) {i:Nat} {K:Act->World->Prop} {a:Act} {w:World} (h:wpOp P l.toArray noQ i K a w):wpOpIn (jm ro) 0 P l.toArray Q i K a w:=by
 unfold wpOp at h;unfold wpOpIn;cases ho:l.toArray[i]? with
 | none=>rw [ho] at h;exact h
 | some o =>
  rw [ho] at h;have hm:o∈l:=by
   rw [Gk] at ho;exact B5 ho
  simp only at h ⊢;split at h
  ·rename_i hw;rw [if_pos hw];rcases h with h|h
   ·exact Oper.wp_in2 (nc hn o hm) (λ_ _ h=>h) (λ_ _ _ h=>h.elim) xo h
   ·exact absurd h.2 xo
  ·rename_i hw;rw [if_neg hw];exact⟨λ_ _=>trivial,h⟩
def z8 (t:Nat) (v:Value) (a:Act):Prop:=a.tmps.getD t undef=v
def keepB (t:Nat) (l:List Oper):Bool:=l.all λo=>match o.dst with
 | some d=>!Nat.beq d t
 | none=>true
theorem sq {t:Nat} {v:Value} {a:Act} {dst:Option Nat} (hd:dst≠some t) (ha:z8 t v a) (u:Value):z8 t v (a.put dst u):=by
 unfold z8 at *;cases dst with
 | none=>exact ha
 | some d =>
  have hne:d≠t:=λh=>hd (by rw [h])
  rw [<- ha];show (a.tmps.setIfInBounds d u).getD t undef=_;simp [Array.getD_eq_getD_getElem?,Array.getElem?_setIfInBounds_ne hne]
theorem keepB_spec {t:Nat} {l:List Oper} (h:keepB t l=true) {o:Oper} (ho:o∈l):o.dst≠some t:=by
 intro hd;have h1:=List.all_eq_true.1 h o ho;rw [hd] at h1;simp at h1
theorem wp_keep {P:Program} {o:Oper} {a:Act} {w:World} {t:Nat} {v:Value} {K:Act->World->Prop} {Q:Exit->Act->World->Prop} (hd:o.dst≠some t) (ha:z8 t v a) (hh:o.wp P a w (λa w=>z8 t v a->K a w) Q):o.wp P a w K Q:=by
 unfold Oper.wp at *;generalize (execOp a.eval o).run P w=r at *;cases r with
 | ok n w' =>
  cases n<;>simp only [Oper.upon] at hh ⊢ <;>
   first
    | exact hh (sq hd ha _)
    | exact hh (sq (a:={ a with defers:=_::a.defers }) hd ha _)
    | exact Calls.mono hh (λe w'' he=>by cases e<;>first|exact he (sq hd ha _)|exact he)
    | exact Rows.mono hh (λ_ _ he=>he (sq hd ha _))
 | halt x w'=>cases x<;>simp only [Oper.upon] at hh ⊢<;>exact hh
theorem wpOp_keep {P:Program} {t:Nat} {v:Value} (hkp:keepB t l=true) {i:Nat} {K:Act->World->Prop} {a:Act} {w:World} (ha:z8 t v a) (h:wpOp P l.toArray noQ i (λa w=>z8 t v a->K a w) a w):wpOp P l.toArray noQ i K a w:=by
 unfold wpOp at h ⊢;cases ho:l.toArray[i]? with
 | none=>rw [ho] at h;exact h ha
 | some o =>
  rw [ho] at h;have hm:o∈l:=by
   rw [Gk] at ho;exact B5 ho
  simp only at h ⊢;split at h
  ·rename_i hw;rw [if_pos hw];rcases h with h|h
   ·exact .inl (wp_keep (keepB_spec hkp hm) ha h)
   ·exact absurd h.2 xo
  ·rename_i hw;rw [if_neg hw];exact h (sq (keepB_spec hkp hm) ha _)
theorem tailIn_run (hdown:qm l=true) (hT:tailB l c=true) {Q:Exit->Act->World->Prop}:∀ (m:Nat) (listed:Array Bool) (a:Act) (w:World),Going l listed (bu (l.length-m) (l.drop (l.length-m)))->m<=l.length-c->wpListIn (jm ro) 0 Γ.P l.toArray Q (l.drop (l.length-m)) a w->wpAnyIn (jm ro) 0 Γ.P .any l.toArray Q m listed a w
 | 0,listed,a,w,g,_,h=>by
  have hn:l.drop (l.length-0)=[]:=List.drop_eq_nil_of_le (by omega);rw [hn] at g h;refine⟨?_,h⟩
  apply List.eq_nil_iff_forall_not_mem.2;intro j hj;obtain⟨h1,o,ho,_⟩:=mem_ready.1 hj;have:=(g.left (j,o)).2 ⟨by simpa using ho,h1⟩
  simp [bu] at this
 | m+1,listed,a,w,g,hm,h=>by
  have hj:l.length-(m+1)<l.length:=by omega
  have hd:l.drop (l.length-(m+1))=l[l.length-(m+1)]::l.drop (l.length-m):=by
   rw [Ao hj];congr 2;omega
  have hen:bu (l.length-(m+1)) (l.drop (l.length-(m+1)))=(l.length-(m+1),l[l.length-(m+1)])::bu (l.length-m) (l.drop (l.length-m)):=by
   rw [hd,bu];congr 2;omega
  rw [hen] at g;rw [hd] at h;generalize hJ:l.length-(m+1)=J at *;have hr:=o8 hdown g;refine⟨λh0=>?_,λi hi=>?_⟩
  ·rw [h0] at hr;simp at hr
  ·obtain⟨h1,o,ho,hall⟩:=mem_ready.1 hi;have hio:l[i]?=some o:=by simpa using ho
   have hij:i=J:=by
    have hmem:=(g.left (i,o)).2 ⟨hio,h1⟩;rcases List.mem_cons.1 hmem with h|h
    ·exact congrArg Prod.fst h
    ·exfalso;have hlt:J<i:=by simpa using (List.pairwise_cons.1 g.sorted).1 _ h
     have:=l6 g l.length i o (tm hT hio (by omega) hlt) hio hall
     have h3:=((g.left (J,l[J])).1 (Ae ..)).2;have hJs:J<listed.size:=by rw [g.size];exact hj
     rw [eb hJs] at h3;rw [h3] at this;cases this
   subst hij;have g':=Going.rest (pre:=[]) (i:=i) (o:=l[i]) (post:=bu (l.length-m) (l.drop (l.length-m))) g hi rfl (by rw [Ab hj]);unfold wpOpIn;have hlk:l.toArray[i]?=some l[i]:=by simp [hj]
   rw [hlk];unfold wpListIn at h;split at h
   ·rename_i hw;simp only [hw,if_true];exact Oper.wpIn_mono (λa' w' hk=>tailIn_run hdown hT m _ a' w' g' (by omega) hk) h
   ·rename_i hw;simp only [hw];exact⟨λ_ _=>trivial,tailIn_run hdown hT m _ _ w g' (by omega) h.2⟩
theorem tailIn_sim (hB:jx l=true) (hT:tailB l c=true) (hcl:c<=l.length) (hnd:dd l=true) {tv:Nat} {vv:Value} (hkp:keepB tv l=true) {K:FS->Prop} {Q:Exit->Act->World->Prop} (hQ:∀ s e a w,K s->Rep Γ (lo (κ+c)) s e a w->z8 tv vv a->wpListIn (jm ro) 0 Γ.P l.toArray Q (l.drop c) a w) :
  ∀ (fuel:Nat) (listed:Array Bool) (a:Act) (w:World) (s:FS) (e:Env) (D:Nat->Prop) (rem:List (Nat×Oper)) (lg:Log),Going l listed (rem++bu c (l.drop c))->(∀ q∈rem,q.1<c)->rem.length=fuel->Rep Γ D s e a w ->
   (∀ x,D x->x<κ+c/\∀ j,x=κ+j->listed.getD j false=true)->DR Γ l κ rem lg K s->z8 tv vv a->wpAnyIn (jm ro) 0 Γ.P .any l.toArray Q (fuel+(l.length-c)) listed a w:=by
 simp only [jx,Bool.and_eq_true] at hB;obtain⟨hdown,hpair,hcall⟩:=hB;intro fuel;induction fuel with
 | zero =>
  intro listed a w s e D rem lg g hrc hlen hr hD hd hka;have hrem:rem=[]:=List.eq_nil_of_length_eq_zero hlen;subst hrem;rw [Nat.zero_add];have hcc:l.length-(l.length-c)=c:=by omega
  refine tailIn_run hdown hT (l.length-c) listed a w (by rw [hcc];exact g) (Nat.le_refl _) ?_;rw [hcc];cases hd with
  | nil hk =>
   obtain⟨L,H,m,hs⟩:=hr;obtain⟨e',m'⟩:=m.widenTo (k':=lo (κ+c)) λx hx=>(hD x hx).1
   exact hQ s e' a w hk ⟨L,H,m',hs⟩ hka
 | succ fuel ih =>
  intro listed a w s e D rem lg g hrc hlen hr hD hd hka;rw [show fuel+1+(l.length-c)=(fuel+(l.length-c))+1 by omega];obtain⟨q0,rem0,hq0⟩:∃ q r,rem=q::r:=by
   cases rem with
   | nil=>simp at hlen
   | cons q r=>exact⟨q,r,rfl⟩
  refine⟨λh0=>?_,λi hi=>?_⟩
  ·exfalso;have hg:=g;rw [hq0,Cd] at hg;have:=o8 hdown hg
   rw [h0] at this;simp at this
  ·obtain⟨h1,o,ho,hall⟩:=mem_ready.1 hi;have hio:l[i]?=some o:=by simpa using ho
   have hic:i<c:=by
    apply Classical.byContradiction;intro hn;have hq0c:q0.1<c:=hrc q0 (by rw [hq0];exact Ae ..);have hrd:=l6 g l.length i o (tm hT hio (by omega) (show q0.1<i by omega)) hio hall;have h3:=(g.left q0).1 (A0 _ (by rw [hq0];exact Ae ..));have hs:q0.1<listed.size:=by rw [g.size];exact bf h3.1
    have h4:=h3.2;rw [eb hs,hrd] at h4;cases h4
   have hmem:(i,o)∈rem:=by
    rcases List.mem_append.1 ((g.left (i,o)).2 ⟨hio,h1⟩) with h|h
    ·exact h
    ·exfalso;have:=((cd _ _ _).1 h).1
     simp only at this;omega
   obtain⟨pre,post,hre⟩:=List.append_of_mem hmem;have g0:=g;rw [hre,Bt,Cd] at g0;have g':=g0.rest hi rfl hio;rw [<- Bt] at g';have hpull:DR Γ l κ ((i,o)::(pre++post)) lg K s:=by
    refine DR.pull pre lg s (λq hq=>?_) (hre▸hd);have hqr:q∈rem++bu c (l.drop c):=A0 _ (by rw [hre];exact A0 _ hq);obtain⟨hq1,hq2⟩:=(g.left q).1 hqr;have hqi:q.1<i:=by
     have hs:=g0.sorted;rw [List.pairwise_append] at hs;have:=hs.2.2 q hq (i,o) (Ae ..)
     simpa using this
    have hqs:q.1<listed.size:=by rw [g.size];exact bf hq1
    have hq2':listed.getD q.1 false=false:=(eb hqs).symm.trans hq2;have e0:qo l i q.1=false:=rk hio hall g.closed hq2';have e1:=ua e0;have e2:mt l q.1 i=false:=by
     cases hx:mt l q.1 i with
     | false=>rfl
     | true =>
      obtain⟨o',ho',e',he',hb',hon⟩:=edgeB_spec.1 hx;have:=zg hdown q.1 o' ho' e' he' hb'
      omega
    refine⟨e0,e2,?_,λhcq=>?_⟩
    ·unfold wz at hpair;rw [Bg] at hpair;have p1:=hpair (i,o) ((cd l 0 (i,o)).2 ⟨Ai _,by simpa using hio⟩);rw [Bg] at p1;have p2:=p1 q ((cd l 0 q).2 ⟨Ai _,by simpa using hq1⟩);have hnb:Nat.ble i q.1=false:=by
      cases hb:Nat.ble i q.1 with
      | false=>rfl
      | true=>have:=Ac hb;omega
     simp only [hnb,Bool.false_or,e1] at p2;exact p2
    ·cases hci:isCall o with
     | false=>rfl
     | true =>
      have:=u5 g hcall hq1 hcq i o hio hci hqi hall
      rw [hq2'] at this;cases this
   cases hpull with
   | cons cc S rd wr hm hl hne hn hk =>
    have hz:¬ D (κ+i):=by
     intro hx;have:=(hD _ hx).2 i rfl
     have hin:i<listed.size:=by rw [g.size];exact bf hio
     rw [<- eb hin,h1] at this;cases this
    refine wpOp_in2 hnd (wpOp_keep hkp hka (Mv.sound hm hr ⟨κ+c,λx hx=>(hD x hx).1⟩ hz hio noQ _ λv u a' w' e' hv hr' hka'=>?_));refine ih (listed.setIfInBounds i true) a' w' _ e' _ (pre++post) _ g' (λq hq=>hrc q ?_) ?_ hr' (λx hx=>?_) (hk v u hv) hka'
    ·rw [hre];rcases List.mem_append.1 hq with h|h<;>simp [h]
    ·rw [hre] at hlen;simp only [Ap,List.length_cons] at hlen ⊢;omega
    ·have hin:i<listed.size:=by rw [g.size];exact bf hio
     rcases hx with hx|hx
     ·refine⟨(hD x hx).1,λj hj=>?_⟩
      have:=(hD x hx).2 j hj
      by_cases hij:i=j
      ·subst hij;simp [hin]
      ·rw [getD_set_ne false hij];exact this
     ·subst hx;refine⟨by omega,λj hj=>?_⟩
      have:i=j:=by omega
      subst this;simp [hin]
end
theorem dwr_yieldA {P:Program} {τ:List (Nat×TI)} {τok:dc P τ} {O:Nat->Prop} {W:World} {N:Nat} {k m:Nat} {L:Sl} {H:Hp} {R:Exit->Act->World->Prop}
  {id l d:Nat} {xs:List Operand} {ts:Array TypeId} {ty:TypeId} {pos:String} {af:Array Edge} {g:Option (Nat×Bool)} {ops pre post:List Oper} {fy:Nat} (hm:P.follows .mixedOrders=true) (hl:ops=pre++⟨some d,.call { callee:=.value (.tmp fy),args:=xs.toArray,argTypes:=ts },ty,pos,af,g⟩::post)
  (hB:jx ops=true) (hT:tailB ops pre.length=true) (hnd:dd ops=true) (hnp:dd post=true) (hdN:Nat.blt d N=true) (hk:lenIs pre k m) (L2:Sl) (h2:∀ e a w,Models (Γit P τ τok O W N) (lo k) L H e a w->Models (Γit P τ τok O W N) (lo k) L2 H e a w) (tv:Nat) (vv:Value) (hLt:L.get tv = .val vv) (hkp:keepB tv ops=true) (Lf:Sl) (hf:flatB Lf=true) (Lp:Bool->Sl)
  (J' Jx:World->Prop)
  (hpre:DT (Γit P τ τok O W N) ops k (bu 0 pre) [] (xz (Γit P τ τok O W N) m (λ_ L' _=>aq ops L' g=some true/\L'.get fy = .val (.func (.yield l) #[] #[])/\dy xs=true/\th L' Lf /\
   ∀ e W' vs,Below W.heap.size W W'->RelL O e W' (mz L' xs) vs->∃ r:Loop,W'.heap[l]?=some (Obj.loop r)/\vs.toArray.size=r.params.size /\
    RoundIn Fence.wide 0 P l r.fn ((r.params.zip vs.toArray).foldl (λt (p,v)=>t.setIfInBounds p v) r.tmps) r.assign r.body W'
     (λen W''=>(en = .returned (.bool true)/\J' W'')∨(en = .returned (.bool false)/\Jx W'')))) L2 H)
  (hpost:∀ (b:Bool) (W':World),DS false (Γit P τ τok (λ_=>False) W' N) ops post (λ_ L' H'=>H'=[]/\th L' (Lp b)/\flatB (Lp b)=true) 0 ((d,.d (.bool b))::(tv,.val vv)::Lf) [])
  (hR:∀ (b:Bool) a' W',Flat N (Lp b) a'->(∃ W1,Below W1.heap.size W1 W'/\((b=true/\J' W1)∨(b=false/\Jx W1)))->R .normal a' W') (hng:∀ W1,J' W1∨Jx W1->Tabs P (λ_=>False) W1) :
  DWr (Γit P τ τok O W N) (.region id ops.toArray true) R k L H:=by
 have hdN:=Ac hdN;have hmc:k+pre.length=m:=n8 pre k m hk;subst hmc;have hdrop:ops.drop pre.length=⟨some d,.call { callee:=.value (.tmp fy),args:=xs.toArray,argTypes:=ts },ty,pos,af,g⟩::post:=by rw [hl,List.drop_left]
 have hcl:pre.length<=ops.length:=by rw [hl,Ap];omega
 intro e a w mm0;have hka0:z8 tv vv a:=by
  have h1:=mm0.slot tv;rw [hLt] at h1;exact h1
 have mm:=h2 e a w mm0;refine wpIn_region_any hm ?_;have m0:=mm.below (w':={ w with drawn:=w.drawn+1 }) ((Beld.refl _ _ _).drew);have hsp:bu 0 pre++bu pre.length (ops.drop pre.length)=bu 0 ops:=by
  have h1:=zd pre (ops.drop pre.length) 0;rw [Nat.zero_add] at h1;rw [<- h1,hdrop,<- hl]
 have hg:Going ops (Array.replicate ops.length false) (bu 0 ops):=by
  refine⟨by simp,λj o hj hl=>?_,λq=>?_,np ops 0⟩
  ·have hlt:=bf hj;simp [hlt] at hl
  ·rw [cd ops 0 q];simp only [Ai,Nat.sub_zero,true_and];constructor
   ·intro hq;exact⟨hq,by have:=bf hq;simp [this]⟩
   ·exact λh=>h.1
 have hlenO:∀ (l:List Oper) b,(bu b l).length=l.length:=by
  intro l;induction l with
  | nil=>intro b;rfl
  | cons o l ih=>intro b;simp [bu,ih]
 have hsize:ops.toArray.size=pre.length+(ops.length-pre.length):=by simp;omega
 rw [hsize];refine tailIn_sim (Γ:=Γit P τ τok O W N) hB hT hcl hnd hkp (Q:=R) (λs e a w hk hr hka=>?_) pre.length _ a _ (ofL L2 H) e (lo k) (bu 0 pre) [] (by rw [hsp,<- hsize];simpa using hg) (λq hq=>?_) (hlenO _ _) ⟨L2,H,m0,rfl⟩ (λx hx=>⟨Nat.lt_of_lt_of_le hx (Nat.le_add_right _ _),λj hj=>?_⟩) hpre hka0;rotate_left
 ·have h2:=((cd _ _ _).1 hq).2;exact bf h2
 ·have:x<k:=hx
  omega
 obtain⟨k',L',H',e',m',hw,hy,hok,hkf,hround⟩:=hk e a w hr;rw [hdrop];have hfl0:=m'.flatten hkf hf;have hfl:Flat N ((tv,.val vv)::Lf) a:=⟨hfl0.len,hfl0.defers,λt X e w=>by
  rw [Sl.get_cons];split
  ·rename_i h;subst h;exact hka
  ·exact hfl0.slot t X e w⟩
 unfold wpListIn;rw [if_pos (ie m' hw)];refine⟨λ_ _=>trivial,?_⟩
 rw [Oper.semAt_eq _ _ _ (by intro c h;cases h)];have hyv:a.eval (.tmp fy) = .func (.yield l) #[] #[]:=by
  have h1:=m'.slot fy;rw [hy] at h1;exact h1
 have hb:=m'.toHeap.it_below;obtain⟨r,h1,h2,h3⟩:=hround e' w (xs.map a.eval) hb (RelL.keep (Nat.le_refl _) (λ_ _ _=>rfl) (λb _ hx=>.inl hx) _ _ (e7 m' xs hok));have hrun:(execOp a.eval ⟨some d,.call { callee:=.value (.tmp fy),args:=xs.toArray,argTypes:=ts },ty,pos,af,g⟩).run P w =
   .ok (.round l r.fn ((r.params.zip (xs.map a.eval).toArray).foldl (λt (p,v)=>t.setIfInBounds p v) r.tmps) r.assign r.body) w:=by
  simp only [execOp,resolve];simp only [hyv];have:=run_yield (P:=P) (w:=w) h1 h2
  simp [Deferred.ofValue,invoke,this]
 rw [hrun];rw [Oper.uponIn_round];refine⟨kf,h3.mono ?_⟩
 have fin:∀ (b:Bool) W1,((b=true/\J' W1)∨(b=false/\Jx W1))->wpListIn (jm none) 0 P ops.toArray R post (a.put (some d) (.bool b)) W1:=by
  intro b W1 hj;have m2:Models (Γit P τ τok (λ_=>False) W1 N) (lo 0) ((d,.d (.bool b))::(tv,.val vv)::Lf) [] ⟨λ_=>0,λ_=>undef,lo 0⟩ (a.put (some d) (.bool b)) W1 :=
   (hfl.models W1 (λ_ h=>h.elim) (hng W1 (hj.imp And.right And.right))).put (s:=.d (.bool b)) hdN RepC.bool
  have:=qe (ro:=none) (Q:=lift (Γit P τ τok (λ_=>False) W1 N) (fx _)) (Q':=R) ?_ jg [] ?_ post hnp _ _ (hpost b W1 _ _ _ m2)
  ·rw [List.append_nil] at this;exact this
  ·rintro c a' w' (⟨_,_,_,_,_,hx,_⟩|⟨_,_,_,_,_,_,hv,_⟩)
   ·cases hx
   ·exact hv.elim
  ·rintro a3 w3 (⟨k3,L3,H3,e3,m3,_,rfl,hk3,hf3⟩|⟨_,_,_,_,_,hx,_⟩)
   ·exact hR b a3 w3 (m3.flatten hk3 hf3) ⟨W1,m3.toHeap.it_below,hj⟩
   ·cases hx
 rintro en W1 (⟨rfl,hj⟩|⟨rfl,hj⟩)
 ·exact fin true W1 (.inl ⟨rfl,hj⟩)
 ·exact fin false W1 (.inr ⟨rfl,hj⟩)
variable [Bnds]
attribute [local irreducible] DW DS DL DQ Ev FnOk FnP dp bh DT
variable [Bnds]
abbrev elStp (s:Stp):SV:=.agg [.d (.int .i64 s.fact.pred),.d (.slice 1 (s.fact.args.map ah)),.d (.int .i64 s.rule),.d (.slice 1 (s.vars.map ah))]
def gg (s:Stp):List D:=[.int .i64 s.fact.pred,.own Bnds.B (.slice 1 (s.fact.args.map ah)),.int .i64 s.rule,.own Bnds.B (.slice 1 (s.vars.map ah))]
theorem owns_stp (s:Stp):OwnsL (gg s) (ck s):=⟨.inr ⟨rfl,rfl⟩,.inl rfl,.inr ⟨rfl,rfl⟩,.inl rfl,trivial⟩
abbrev elStpO (s:Stp):SV:=.agg [.d (.int .i64 s.fact.pred),.d (.own Bnds.B (.slice 1 (s.fact.args.map ah))),.d (.int .i64 s.rule),.d (.own Bnds.B (.slice 1 (s.vars.map ah)))]
def o7 (f:Fct) (s:Stp):Bool:=decide (cu s.fact f=0)
def oa (l:List Stp) (f:Fct):Bool:=l.any (o7 f)
theorem met1_fn (f:Fct) (s:Stp):Fn 155 ([elStp s]++[.pd (aa f)]) (λr=>r = .d (.bool (o7 f s))):=by
 refine fqE Tryz.func155 ?_;intro O w0 E0 β0;have w1:=jr s.fact f;repeat' (first|refine zr ?_|refine z21 ?_ (hc:=by apply w1)|fail)
 exact cm rfl rfl
theorem indexSt_fn {f:FuncId} {caps:List SV} (p:Stp->Bool) (l:List (Stp)) (hcap:SV.lowL 0 caps=true) (hp:∀ x∈l,Fn f (elStp x::caps) (λr=>r = .d (.bool (p x)))):Fn 210 [.d (.slice 4 (l.map ck)),.fn f caps] (λr=>r = .d (.int .i64 (n9 p l))):=by
 refine fqE Tryz.func210 ?_;intro O w0 E0 β0;refine c8 (t:=0) rfl λhb=>?_
 repeat' (first|refine zs ?_|fail)
 refine ak (ι:=Nat) (λi=>⟨0,[(0,.d (.slice 4 (l.map ck))),(1,.fn f caps),(7,.d (.int .i64 l.length)),(8,.d (.int .i64 i))],[]⟩)
  (λi=>i<=l.length/\∀ j (hj:j<l.length),j<i->p l[j]=false) (λi=>l.length-i) 0 ⟨Ai _,λj _ h=>absurd h (A6 j)⟩
  (ag id ⟨rfl,congrArg (SV.fn f) (SV.renL_id caps).symm,by simp;rfl,rfl,trivial⟩ trivial (by simp [Sl.low,SV.low,hcap]) rfl rfl rfl rfl rfl) ?_
 rintro i ⟨h1,h2⟩;repeat' (first|refine zs ?_|fail)
 refine bi rfl (λh=>?_) (λh=>?_)
 ·have hi:i<l.length:=by omega
  have hpx:=hp l[i] (Ag hi);repeat' (first|refine zs ?_|(apply jp;exact rfl;exact rfl;exact rfl;exact rfl;apply hpx;exact rfl;(assumption);exact rfl;rintro _ rfl))
  refine ff rfl (λhb=>?_) (λhb=>?_)
  ·repeat' (first|refine zr ?_|fail)
   exact br rfl (j8 h2 hi hb).symm
  ·repeat' (first|refine zs ?_|fail)
   exact⟨i+1,⟨hi,jt h2 hi hb⟩,ag id ⟨rfl,congrArg (SV.fn f) (SV.renL_id caps).symm,rfl,rfl,trivial⟩ trivial (by simp [Sl.low,SV.low,hcap]) rfl rfl rfl rfl rfl,by omega⟩
 ·repeat' (first|refine zr ?_|fail)
  exact br rfl (iy λj hj=>h2 j hj (by omega)).symm
theorem containsSt_fn {f:FuncId} {caps:List SV} (p:Stp->Bool) (l:List (Stp)) (hcap:SV.lowL 0 caps=true) (hp:∀ x∈l,Fn f (elStp x::caps) (λr=>r = .d (.bool (p x)))):Fn 154 [.d (.slice 4 (l.map ck)),.fn f caps] (λr=>r = .d (.bool (l.any p))):=by
 refine fqE Tryz.func154 ?_;intro O w0 E0 β0;have hx:=indexSt_fn p l hcap hp;have hlow:SV.lowL 0 [.d (.slice 4 (l.map ck)),.fn f caps]=true:=by simp [SV.lowL,SV.low,hcap]
 repeat' (first|refine zr ?_|refine z21 ?_ (hc:=by apply hx)|fail)
 exact cm rfl (qu p l)
theorem met_fn (l:List Stp) (f:Fct):Fn 102 [.d (.slice 4 (l.map ck)),c9 f] (λr=>r = .d (.bool (oa l f))):=by
 refine fqE Tryz.func102 ?_;intro O w0 E0 β0;have w1:=containsSt_fn (caps:=[.pd (aa f)]) (o7 f) l rfl (λs _=>met1_fn f s);repeat' ((fail_if_success (apply cp 1));(first|refine zs ?_|fail))
 refine au (cv (ds:=aa f) 3 0 rfl rfl) ?_;repeat' (first|refine zr ?_|refine z21 ?_ (hc:=by apply w1)|fail)
 exact cm rfl rfl
theorem indexStR_fn {f:FuncId} {caps:List SV} (p:Stp->Bool) (l:List Stp) (hl:l.length<=1000000) (hcap:SV.lowL 0 caps=true) (hcap1:SV.lowL 1 caps=true) (hp:∀ x∈l,Fn f (elStpO x::caps) (λr=>r = .d (.bool (p x)))) :
  FnOk false Tryz.prog tab bp 210 [.row 0,.fn f caps] 1 1 [(0,.row 39 4 (l.map gg))] (λ_ r H=>r = .d (.int .i64 (n9 p l))/\H=[(0,.row 39 4 (l.map gg))]):=by
 refine frE Tryz.func210 ?_;intro O w0 E0 β0;have ll:(l.map gg).length=l.length:=Aa _;repeat' (first|refine zs ?_|fail)
 refine ak (ι:=Nat) (λi=>⟨1,[(0,.row 0),(1,.fn f caps),(7,.d (.int .i64 l.length)),(8,.d (.int .i64 i))],[(0,.row 39 4 (l.map gg))]⟩)
  (λi=>i<=l.length/\∀ j (hj:j<l.length),j<i->p l[j]=false) (λi=>l.length-i) 0 ⟨Ai _,λj _ h=>absurd h (A6 j)⟩
  (ag id ⟨rfl,congrArg (SV.fn f) (SV.renL_id caps).symm,by simp;rfl,rfl,trivial⟩ ⟨rfl,trivial⟩ (by simp [Sl.low,SV.low,hcap1]) rfl rfl rfl rfl rfl) ?_
 rintro i ⟨h1,h2⟩;repeat' (first|refine zs ?_|fail)
 refine bi rfl (λh=>?_) (λh=>?_)
 ·have hi:i<l.length:=by omega
  have hpx:=hp l[i] (Ag hi);repeat' (first|refine zs ?_|(apply jp;exact rfl;exact rfl;exact rfl;exact rfl;apply hpx;exact rfl;(assumption);exact rfl;rintro _ rfl))
  refine ff rfl (λhb=>?_) (λhb=>?_)
  ·repeat' (first|refine zr ?_|fail)
   exact⟨.inl rfl,_,rfl,kp id 1 _ ([(0,.row 39 4 (l.map gg))]) ⟨by rw [j8 h2 hi hb],rfl⟩⟩
  ·repeat' (first|refine zs ?_|fail)
   exact⟨i+1,⟨hi,jt h2 hi hb⟩,ag id ⟨rfl,congrArg (SV.fn f) (SV.renL_id caps).symm,rfl,rfl,trivial⟩ ⟨rfl,trivial⟩ (by simp [Sl.low,SV.low,hcap1]) rfl rfl rfl rfl rfl,by omega⟩
 ·repeat' (first|refine zr ?_|fail)
  exact⟨.inl rfl,_,rfl,kp id 1 _ ([(0,.row 39 4 (l.map gg))]) ⟨by rw [iy λj hj=>h2 j hj (by omega)],rfl⟩⟩
theorem containsStR_fn (l:List Stp) (f:Fct) (hl:l.length<=1000000) :
  FnOk false Tryz.prog tab bp 154 [.row 0,.fn 155 [.pd (aa f)]] 1 1 [(0,.row 39 4 (l.map gg))] (λ_ r H=>r = .d (.bool (oa l f))/\H=[(0,.row 39 4 (l.map gg))]):=by
 refine frE Tryz.func154 ?_;intro O w0 E0 β0;have hx:=indexStR_fn (caps:=[.pd (aa f)]) (o7 f) l hl rfl rfl (λs _=>(met1_fn f s).ofWeak [elStpO s,.pd (aa f)] rfl);repeat' (first|refine zs ?_|fail)
 (refine bk id (hx) rfl rfl rfl rfl ⟨rfl,trivial⟩ rfl rfl rfl rfl rfl rfl ?_ ?_)
 ·rintro k2 r H2 ⟨rfl,rfl⟩;exact⟨rfl,rfl⟩
 rintro k2 r H2 ⟨rfl,rfl⟩;change DS _ _ _ _ _ _ _ _;repeat' (first|refine zr ?_|fail)
 exact⟨.inl rfl,_,rfl,kp id 1 _ ([(0,.row 39 4 (l.map gg))]) ⟨congrArg (λb=>SV.d (.bool b)) (qu (o7 f) l),rfl⟩⟩
theorem metR_fn (l:List Stp) (f:Fct) (hl:l.length<=1000000):FnOk false Tryz.prog tab bp 102 [.row 0,c9 f] 1 1 [(0,.row 39 4 (l.map gg))] (λ_ r H=>r = .d (.bool (oa l f))/\H=[(0,.row 39 4 (l.map gg))]):=by
 refine frE Tryz.func102 ?_;intro O w0 E0 β0;have w1:=containsStR_fn l f hl;repeat' ((fail_if_success (apply cp 1));(first|refine zs ?_|fail))
 refine au (cv (ds:=aa f) 3 1 rfl rfl) ?_;repeat' (first|refine zs ?_|fail)
 (refine bk id (w1) rfl rfl rfl rfl ⟨rfl,trivial⟩ rfl rfl rfl rfl rfl rfl ?_ ?_)
 ·rintro k2 r H2 ⟨rfl,rfl⟩;exact⟨rfl,rfl⟩
 rintro k2 r H2 ⟨rfl,rfl⟩;change DS _ _ _ _ _ _ _ _;repeat' (first|refine zr ?_|fail)
 exact⟨.inl rfl,_,rfl,kp id 1 _ ([(0,.row 39 4 (l.map gg))]) ⟨rfl,rfl⟩⟩
end
end Go.Proofs.YtapciiffpnociadGreat
