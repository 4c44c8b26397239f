/- Several texts in one: RuF ScoG ScoH TokL ScoI RuL RuH RuM StrB. Condition: none. -/
import Derived.Test.YtapciiffpnociadGreatT20
import Derived.Test.YtapciiffpnociadGreatT21
import Derived.Test.YtapciiffpnociadGreatT18
import Derived.Test.YtapciiffpnociadGreatT10
import Derived.Test.YtapciiffpnociadGreatT12
set_option maxHeartbeats 8000000
open Array renaming length_toList→A2
open Bool renaming and_eq_true→Ae,not_eq_true→Cm
open Classical renaming byContradiction→Bc
open List renaming append_nil→Bt,drop_eq_getElem_cons→Am,drop_of_length_le→As,exists_cons_of_ne_nil→D2,foldl_cons→Bf,getD→A6,getElem?_eq_getElem→Ad,getElem?_eq_none→A8,getElem?_of_mem→E7,getElem?_set_ne→Ce,getElem?_set_self→B4,getElem_mem→Aj,length_map→Aa,map_append→Ar,map_replicate→Dm,map_set→C3,map_singleton→G9,mem_append_left→Ax,mem_append_right→B1,mem_cons_of_mem→Ag,mem_cons_self→Ac,mem_filterMap→Ep,mem_map_of_mem→Ej,mem_of_getElem?→By,mem_singleton→A1,nil_append→H0,replicate→Ap,take_of_length_le→Ai
open Nat renaming le_refl→Ah,le_trans→A5,succ_pos→Hj,zero_le→Ak
namespace Go.Proofs.YtapciiffpnociadGreat
section
open Go Go.RowKit
theorem ordL_nil:du [] []=0:=rfl
theorem ordL_drop {a b:List Int} (hl:a.length=b.length) {i:Nat} (hi:i<a.length):du (a.drop i) (b.drop i)=if ep a[i] (b[i]'(by omega))=0 then du (a.drop (i+1)) (b.drop (i+1)) else ep a[i] (b[i]'(by omega)):=by
 rw [Am hi,Am (show i<b.length by omega),du]
theorem cmpI_eq0 {a b:Int}:ep a b=0↔a=b:=by unfold ep;repeat' split<;>omega
attribute [local irreducible] DW DS DL DQ Ev FnOk FnP ef bt DT
theorem lessInts_fn (a b:List Int) (hl:a.length=b.length):Fn 161 [.d (.slice 1 (a.map aq)),.d (.slice 1 (b.map aq))] (λr=>r = .d (.bool (decide (du a b<0)))):=by
 refine fqE Tryz.func161 ?_;intro O w0 E0 β0;have la:(a.map aq).length=a.length:=Aa _;have lb:(b.map aq).length=b.length:=Aa _;refine o9 (t:=0) rfl (λhk=>?_);repeat' (first|refine zs ?_|fail)
 refine ag (ι:=Nat) (λi=>⟨0,[(0,.d (.slice 1 (a.map aq))),(1,.d (.slice 1 (b.map aq))),(5,.d (.int .i64 i))],[]⟩)
  (λi=>i<=a.length/\du a b=du (a.drop i) (b.drop i)) (λi=>a.length-i) 0 ⟨Ak _,rfl⟩ (er id) ?_
 rintro i ⟨g1,g2⟩;dsimp only at g1 g2 ⊢;by_cases hi:i<a.length
 ·rw [ordL_drop hl hi] at g2;by_cases he:a[i]=b[i]'(by omega)
  ·rw [if_pos (cmpI_eq0.2 he)] at g2;repeat' (first|refine zr ?_|(refine zm ?_ ?_<;>intro hg)|(exfalso;omega))
   all_goals try (exfalso;exact hg he)
   exact⟨i+1,⟨hi,g2⟩,er id,by omega⟩
  ·rw [if_neg (λh=>he (cmpI_eq0.1 h))] at g2;rw [g2];repeat' (first|refine zr ?_|(refine zm ?_ ?_<;>intro hg)|(exfalso;omega))
   all_goals try (exfalso;exact hg he)
   exact a7 rfl (by simp only [cmpI_lt])
 ·rw [As (by omega),As (by omega)] at g2;rw [g2,ordL_nil];repeat' (first|refine zr ?_|(refine zm ?_ ?_<;>intro hg)|(exfalso;omega))
  exact⟨.inl rfl,_,rfl,rfl,rfl⟩
theorem sortedTo_le {o:List (List Int)} {i j:Nat} (h:vv o i) (hj:j<=i):vv o j:=λp q a b h1 h2=>h p q a b h1 (by omega)
theorem swap_set {o:List (List Int)} {k:Nat} {a b:List Int}:((o.map ey).set k (ey a)).set (k-1) (ey b)=(swapW o k a b).map ey:=by unfold swapW;rw [C3,C3]
theorem waysOf_fn (l:List Fct) (r:Rul) (hl:l.length<=60) (hr:RulS (a8 l) r):Fn 113 [vf r,.d (.slice 2 (l.map ae))] (λres=>res = .tup [.d (.slice 1 ((fm (a8 l) r).map ey)),.d (.bool (manyW (a8 l) r))]):=by
 refine fqE Tryz.func113 ?_;intro O w0 E0 β0;have hv:=hr.vars;have hS:=(bp l).1;have w1:=sc l (by omega);have hSl:(a8 l).length<=60:=A5 (v8 l []) hl;generalize a8 l=S at *;have hnd:S.Nodup:=hS.imp λh he=>by subst he;exact lt_irrefl h
 obtain⟨_,p2,p3⟩:=mh hnd hr.ok.lit hr.bd;have w:=from_fn r S (by omega) (r.body.length-0) 0 rfl (Ak _) (e0 r.vars.toNat) [] false (by rw [show (e0 r.vars.toNat).length=r.vars.toNat from List.length_replicate];exact hr.ok) (λv x hx=>by
  unfold e0 at hx;rw [List.getElem?_replicate] at hx;split at hx<;>simp at hx) (by simp)
 rw [show re r.body 0=jz r.body from rfl] at w;have hlen:(rj S r.vars.toNat r.body).length=(ed S r.body (jz r.body) (e0 r.vars.toNat)).length:=(jg S r.vars.toNat r.body).length_eq;have hlens:∀ x∈ed S r.body (jz r.body) (e0 r.vars.toNat),x.length=r.vars.toNat:=λx hx=>((p3 x).1 hx).1
 have huniq:∀ o:List (List Int),SortW o->o.Perm (ed S r.body (jz r.body) (e0 r.vars.toNat))->o=rj S r.vars.toNat r.body:=λo h1 h2=>vo h1 h2
 clear p3;generalize ed S r.body (jz r.body) (e0 r.vars.toNat)=fw at *;have hadd:ou fw ([],false)=(fw.take 2000,!manyW S r):=by
  unfold ou manyW;rw [hlen];simp only [Bool.false_eq_true,if_false,List.length_nil,H0,Nat.sub_zero,Nat.zero_add];rw [<- decide_not];exact congrArg _ (decide_eq_decide.2 (by omega))
 rw [hadd] at w;repeat' ((fail_if_success (apply bk 2));(first|refine zs ?_|refine z22 ?_ (hc:=by apply w1)|fail))
 all_goals try (exfalso;omega)
 refine ak (kg 5 6 22 1 rfl rfl rfl) ?_;refine ak (ai (k':=3) (L':=[(2,.loc 2 0),(6,.loc 0 0)]) (H':=(2,.blk 64 [.d (.int .i64 r.pred),.d (.slice 2 (r.terms.map av)),.d (.int .i64 r.fold),.d (.slice 4 (r.body.map ay)),.d (.int .i64 r.vars)])::rh r S [] false) (λj=>match j with|0=>5|1=>7|2=>0|j=>j)
  ⟨rfl,rfl,trivial⟩ ⟨rfl,rfl,rfl,trivial⟩ rfl rfl rfl rfl rfl rfl) ?_
 refine j6 6 (by kernel_rfl) (by kernel_rfl) (by kernel_rfl) rfl rfl rfl ?_;repeat' refine z5 ?_
 refine dt_new rfl rfl rfl ⟨rfl,hv.1,?_,?_⟩ rfl rfl rfl rfl rfl ?_
 ·show 8*r.vars.toNat<=_;omega
 ·unfold maxLen;omega
 repeat' refine z5 ?_
 refine dt_new rfl rfl rfl ⟨rfl,hv.1,?_,?_⟩ rfl rfl rfl rfl rfl ?_
 ·show 1*r.vars.toNat<=_;omega
 ·unfold maxLen;omega
 repeat' refine z11 ?_
 refine mc (bh 15 rfl rfl rfl) ?_;refine mc (bh 18 rfl rfl rfl) ?_;have en:Ap r.vars.toNat [D.int .i64 0]=(bq (e0 r.vars.toNat)).map aq:=by rw [outE_e0,Dm];rfl
 have es:Ap r.vars.toNat [D.bool false]=(bx (e0 r.vars.toNat)).map cu:=by rw [hasE_e0,Dm];rfl
 rw [<- en,<- es] at w;(refine bg id (w) rfl rfl rfl rfl ⟨rfl,rfl,trivial⟩ rfl rfl rfl rfl rfl rfl ?_ ?_)
 ·rintro k2 res H2 ⟨rfl,rfl,rfl⟩;exact⟨rfl,rfl⟩
 rintro k2 res H2 ⟨rfl,rfl,rfl⟩;change DS _ _ _ _ _ _ _ _;clear w en es;unfold fm;cases hm:manyW S r with
 | false =>
  rw [if_neg (by simp)];repeat' (first|refine zs ?_|(exfalso;omega))
  refine ak (cr 4 1 rfl) ?_;repeat' (first|refine zr ?_|fail)
  exact⟨.inl rfl,_,rfl,rfl,rfl⟩
 | true =>
  have hl2:fw.length<=2000:=by rw [<- hlen];unfold manyW at hm;exact of_decide_eq_true hm
  rw [if_pos rfl,Ai hl2];repeat' (first|refine zs ?_|(exfalso;omega))
  refine ag (ι:=Nat×List (List Int)) (λx=>⟨2,[(6,.loc 0 0),(7,.d (.int .i64 x.1))],rh r S x.2 false⟩)
   (λx=>1<=x.1/\x.1<=fw.length+1/\x.2.Perm fw/\vv x.2 x.1) (λx=>fw.length+1-x.1) (1,fw) ⟨Ah _,by dsimp only;omega,.refl _,λp q _ _ _ _=>by dsimp only at *;omega⟩ (er (λj=>match j with|1=>10|j=>j)) ?_
  rintro⟨i,o⟩ ⟨g1,g2,g3,g4⟩;dsimp only at g1 g2 g3 g4 ⊢;have lo:(o.map ey).length=o.length:=Aa _;have lof:=g3.length_eq;by_cases hi:i<o.length
  ·repeat' (first|refine zr ?_|(refine zm ?_ ?_<;>intro hg)|(exfalso;omega))
   refine ag (ι:=Nat×List (List Int)) (λx=>⟨2,[(6,.loc 0 0),(7,.d (.int .i64 i)),(8,.d (.int .i64 x.1))],rh r S x.2 false⟩)
    (λx=>x.1<=i/\x.2.Perm fw/\insOk x.2 x.1 i) (λx=>x.1) (i,o) ⟨Ah _,g3,sortedTo_ins g4⟩ (er id) ?_
   clear g3 g4 lo;rintro⟨k,o⟩ ⟨f1,f2,f3⟩;dsimp only at f1 f2 f3 ⊢;have lo:(o.map ey).length=o.length:=Aa _;have lof2:=f2.length_eq;cases k with
   | zero =>
    repeat' (first|refine zs ?_|(exfalso;omega))
    exact⟨(i+1,o),⟨by dsimp only;omega,by dsimp only;omega,f2,λp q a b h1 h2=>insOk_done f3 (.inl rfl) p q a b h1 (by dsimp only at h2;omega)⟩,er id,by show fw.length+1-(i+1)<fw.length+1-i;omega⟩
   | succ j =>
    have hj1:j+1<o.length:=by omega
    have hj0:j<o.length:=by omega
    have e1:o[j+1]?=some o[j+1]:=Ad hj1;have e0:o[j]?=some o[j]:=Ad hj0;have w3:=lessInts_fn o[j+1] o[j] ((hlens _ (f2.mem_iff.1 (Aj hj1))).trans (hlens _ (f2.mem_iff.1 (Aj hj0))).symm);have hpm:j+1<(o.map ey).length/\∀ y∈o.map ey,y.length=1:=rowOk hj1 λ_=>rfl
    have hpk:j<((o.map ey).set (j+1) [D.slice 1 (o[j].map aq)]).length/\∀ y∈(o.map ey).set (j+1) [D.slice 1 (o[j].map aq)],y.length=1:=⟨by rw [List.length_set];omega,λy hy=>by
     rcases List.mem_or_eq_of_mem_set hy with h|h
     ·exact hpm.2 y h
     ·rw [h];rfl⟩
    cases hb:decide (du o[j+1] o[j]<0) with
    | false =>
     rw [hb] at w3;repeat' (first|refine zs ?_|refine z22 ?_ (hc:=by apply w3)|(refine zm ?_ ?_<;>intro hg)|(exfalso;omega))
     exact⟨(i+1,o),⟨by dsimp only;omega,by dsimp only;omega,f2,λp q a b h1 h2=>insOk_done f3 (.inr ⟨_,_,Hj j,e0,e1,of_decide_eq_false hb⟩) p q a b h1 (by dsimp only at h2;omega)⟩,er id,by show fw.length+1-(i+1)<fw.length+1-i;omega⟩
    | true =>
     rw [hb] at w3;repeat' (first|refine zs ?_|refine z22 ?_ (hc:=by apply w3)|(refine zm ?_ ?_<;>intro hg)|(exfalso;omega))
     have hsw:=swap_set (o:=o) (k:=j+1) (a:=o[j]) (b:=o[j+1]);exact⟨(j,swapW o (j+1) o[j] o[j+1]),⟨by dsimp only;omega,(swapW_perm (Hj j) e0 e1).trans f2,insOk_swap (Hj j) hj1 f1 e0 e1 (of_decide_eq_true hb) f3⟩,ai id ⟨rfl,rfl,congrArg (λz=>SV.d (D.int .i64 z)) (b8 j),trivial⟩ ⟨rfl,by rw [<- hsw];rfl,trivial⟩ rfl rfl rfl rfl rfl rfl,Nat.lt_succ_self j⟩
  ·have hall:=huniq o (sortedTo_all (sortedTo_le g4 (by omega))) g3;rw [<- hall];repeat' (first|refine zs ?_|(refine zm ?_ ?_<;>intro hg)|(exfalso;omega))
   refine ak (bh 4 rfl rfl rfl) ?_;repeat' (apply c9)
   exact⟨.inl rfl,_,rfl,rfl,rfl⟩
theorem rrule_fn (p:Prg) (r:Rul):Fn 143 [gu p,vf r] (λx=>x = .d (.int .i64 (nk p.arity r))):=by
 refine fqE Tryz.func143 ?_;intro O w0 E0 β0;have la:(p.arity.map aq).length=p.arity.length:=Aa _;have lb:(r.terms.map av).length=r.terms.length:=Aa _;have lc:(r.body.map ay).length=r.body.length:=Aa _;refine fx 0 0 rfl rfl (λhk=>?_);refine fx 1 1 rfl rfl (λhk2=>?_);refine fx 1 3 rfl rfl (λhk3=>?_);have w1:=ez r.pred 0 (((p.arity.map aq).length:Int)-1);have w2:=ez r.vars 0 8;have w3:=ez r.fold 0 4;have hR:nk p.arity r=nk p.arity r:=rfl;conv at hR=>rhs;unfold nk
 rw [hR];rw [<- la,<- lb,<- lc];by_cases hp:inR r.pred 0 (((p.arity.map aq).length:Int)-1)=true
 ·have hp':=ly hp;have hA:=arity_at (p:=p) (n:=r.pred) (by omega) (by omega);rw [hp] at w1 ⊢;rw [if_neg (show ¬ (true=false) by decide),hA];by_cases hv:inR r.vars 0 8=true
  ·have hv':=ly hv;rw [hv] at w2 ⊢;rw [if_neg (show ¬ (true=false) by decide)];have w4:=rterms_fn r.terms r.vars hv'.1 hv'.2;clear hv hp hA hR;generalize nr r.vars r.terms=te at w4 ⊢;by_cases hfo:inR r.fold 0 4=true
   ·have hf':=ly hfo;rw [hfo] at w3 ⊢;rw [if_neg (show ¬ (true=false) by decide)];repeat' (first|refine zr ?_|refine z21 ?_ (hc:=by apply w1)|refine z21 ?_ (hc:=by apply w2)|refine z21 ?_ (hc:=by apply w3)|refine z21 ?_ (hc:=by apply w4)|(refine zm ?_ ?_<;>intro hg)|fail)
    all_goals try (refine a6 rfl ?_;(repeat' split)<;>(first|rfl|(exfalso;omega)))
    all_goals
     have hb4:r.body.length<=4:=by omega
     have hfin:∀ e,bm (kz p.arity r.vars) r.body=e->(if (((r.terms.map av).length:Nat):Int)≠p.arity[r.pred.toNat]'(by omega) then 1 else if te≠0 then te else if r.fold≠0/\((r.terms.map av).length=0∨(r.body.map ay).length=0) then 1 else if 4<(r.body.map ay).length then 2 else if bm (kz p.arity r.vars) r.body≠0 then bm (kz p.arity r.vars) r.body else if rk r=false then 4 else 0)=if e≠0 then e else if rk r=false then 4 else 0:=by
      rintro e rfl;(repeat' split)<;>(first|rfl|(exfalso;omega))
     generalize (if (((r.terms.map av).length:Nat):Int)≠p.arity[r.pred.toNat]'(by omega) then 1 else if te≠0 then te else if r.fold≠0/\((r.terms.map av).length=0∨(r.body.map ay).length=0) then 1 else if 4<(r.body.map ay).length then 2 else if bm (kz p.arity r.vars) r.body≠0 then bm (kz p.arity r.vars) r.body else if rk r=false then 4 else 0)=res at hfin ⊢;refine ag (ι:=Nat) (λi=>⟨2,[(2,.loc 0 0),(3,.loc 1 0),(4,.d (.int .i64 0)),(5,.d (.int .i64 (p.arity.map aq).length)),(7,.d (.int .i64 i))],[(0,prgB p),(1,sg r)]⟩)
      (λi=>i<=r.body.length/\bm (kz p.arity r.vars) r.body=bm (kz p.arity r.vars) (r.body.drop i)) (λi=>r.body.length-i) 0 ⟨Ak _,rfl⟩ (er id) ?_
     rintro i ⟨g1,g2⟩;by_cases hi:i<r.body.length
     ·rw [ga hi] at g2;repeat' ((fail_if_success (apply ip 21));(first|refine zs ?_|(refine zm ?_ ?_<;>intro hg)|fail))
      all_goals try (exfalso;omega)
      generalize r.body[i]=l at g2 ⊢;have hret:∀ e,kz p.arity r.vars l=e->e≠0->e=res:=by
       rintro e rfl he;rw [if_pos he] at g2;rw [hfin _ g2,if_pos he]
      obtain⟨NX,hN,hnext⟩:∃ NX:Prop,(NX->bm (kz p.arity r.vars) r.body=bm (kz p.arity r.vars) (r.body.drop (i+1)))/\(kz p.arity r.vars l=0->NX):=by
       refine⟨_,id,λhe=>?_⟩
       rw [if_neg (by rw [he];decide)] at g2;exact g2
      clear hfin g2;refine ak (ai (k':=3) (L':=[(2,.loc 0 0),(3,.loc 1 0),(4,.d (.int .i64 0)),(5,.d (.int .i64 (p.arity.map aq).length)),(7,.d (.int .i64 i)),(8,.loc 2 0)]) (H':=[(0,prgB p),(1,sg r),(2,litB l)]) id ⟨rfl,rfl,rfl,rfl,rfl,rfl,trivial⟩ ⟨rfl,rfl,rfl,trivial⟩ rfl rfl rfl rfl rfl rfl) ?_;obtain⟨kind,op,pred,terms⟩:=l;have lt:(terms.map av).length=terms.length:=Aa _;have wt:=rterms_fn terms r.vars hv'.1 hv'.2;have k1:=ez kind 1 4;have wp:=ez pred 0 (((p.arity.map aq).length:Int)-1);have wo3:=ez op 1 4;have wo4:=ez op 5 7;unfold kz opB at hret hnext;dsimp only [litB] at hret hnext ⊢;rw [<- la,<- lt] at hret hnext;generalize nr r.vars terms=tl at wt hret hnext;generalize inR op 1 4=o3 at wo3 hret hnext;generalize inR op 5 7=o4 at wo4 hret hnext;by_cases hk1:inR kind 1 4=true
      ·have hk':=ly hk1;rw [hk1] at hret hnext k1;by_cases hpp:inR pred 0 (((p.arity.map aq).length:Int)-1)=true
       ·have hpp':=ly hpp;have hA':=arity_at (p:=p) (n:=pred) (by omega) (by omega);rw [hpp] at hret hnext wp;rw [hA'] at hret hnext;clear hpp hA' hk1;rcases (show kind=1∨kind=2∨kind=3∨kind=4 by omega) with rfl|rfl|rfl|rfl
        all_goals repeat' (first|refine zr ?_|refine z21 ?_ (hc:=by apply k1)|refine z21 ?_ (hc:=by apply wp)|refine z21 ?_ (hc:=by apply wo3)|refine z21 ?_ (hc:=by apply wo4)|refine z21 ?_ (hc:=by apply wt)|(refine zm ?_ ?_<;>intro hg)|fail)
        all_goals first
         | (exfalso;omega)
         | (refine a6 rfl (hret _ ?_ ?_)<;>(clear hret hnext hN k1 wp wo3 wo4 wt w1 w2 w3 w4;(repeat' split)<;>(first|rfl|assumption|decide|(exfalso;omega)|contradiction|(exfalso;simp_all;done))))
         | (refine⟨i+1,⟨by omega,hN (hnext ?_)⟩,er id,by show r.body.length-(i+1)<r.body.length-i;omega⟩;(clear hret hnext hN k1 wp wo3 wo4 wt w1 w2 w3 w4;(repeat' split)<;>(first|omega|contradiction|(exfalso;simp_all;done))))
       ·rw [Cm] at hpp;rw [hpp] at hret hnext wp;clear hpp hk1;rcases (show kind=1∨kind=2∨kind=3∨kind=4 by omega) with rfl|rfl|rfl|rfl
        all_goals repeat' (first|refine zr ?_|refine z21 ?_ (hc:=by apply k1)|refine z21 ?_ (hc:=by apply wp)|refine z21 ?_ (hc:=by apply wo3)|refine z21 ?_ (hc:=by apply wo4)|refine z21 ?_ (hc:=by apply wt)|(refine zm ?_ ?_<;>intro hg)|fail)
        all_goals first
         | (exfalso;omega)
         | (refine a6 rfl (hret _ ?_ ?_)<;>(clear hret hnext hN k1 wp wo3 wo4 wt w1 w2 w3 w4;(repeat' split)<;>(first|rfl|assumption|decide|(exfalso;omega)|contradiction|(exfalso;simp_all;done))))
         | (refine⟨i+1,⟨by omega,hN (hnext ?_)⟩,er id,by show r.body.length-(i+1)<r.body.length-i;omega⟩;(clear hret hnext hN k1 wp wo3 wo4 wt w1 w2 w3 w4;(repeat' split)<;>(first|omega|contradiction|(exfalso;simp_all;done))))
      ·rw [Cm] at hk1;rw [hk1] at hret k1;repeat' (first|refine zr ?_|refine z21 ?_ (hc:=by apply k1)|fail)
       all_goals exact a6 rfl (hret _ rfl (by decide))
     ·rw [ir (by omega)] at g2;have hall:=ru g2;have w7:=safe_fn r hb4 hv'.1 hv'.2 (λl hl=>(litE_ok hv'.1 (hall l hl)).1) (λl hl=>(litE_ok hv'.1 (hall l hl)).2);rw [hfin 0 g2,if_neg (by decide)];generalize rk r=sb at w7 ⊢;repeat' (first|refine zr ?_|refine z21 ?_ (hc:=by apply w7)|(refine zm ?_ ?_<;>intro hg)|fail)
      all_goals first
       | (exfalso;omega)
       | (refine a6 rfl ?_;simp_all;done)
   ·rw [Cm] at hfo;rw [hfo] at w3 ⊢;repeat' (first|refine zr ?_|refine z21 ?_ (hc:=by apply w1)|refine z21 ?_ (hc:=by apply w2)|refine z21 ?_ (hc:=by apply w3)|refine z21 ?_ (hc:=by apply w4)|(refine zm ?_ ?_<;>intro hg)|fail)
    all_goals (refine a6 rfl ?_;(repeat' split)<;>(first|rfl|(exfalso;omega)|contradiction))
  ·rw [Cm] at hv;rw [hv] at w2 ⊢;repeat' (first|refine zr ?_|refine z21 ?_ (hc:=by apply w1)|refine z21 ?_ (hc:=by apply w2)|(refine zm ?_ ?_<;>intro hg)|fail)
   all_goals (refine a6 rfl ?_;(repeat' split)<;>(first|rfl|(exfalso;omega)|contradiction))
 ·rw [Cm] at hp;rw [hp] at w1 ⊢;rw [if_pos rfl];repeat' (first|refine zr ?_|refine z21 ?_ (hc:=by apply w1)|fail)
  all_goals exact a6 rfl rfl
theorem rcheck_fn (p:Prg):Fn 80 [gu p] (λx=>x = .d (.int .i64 (dc cz p))):=by
 refine fqE Tryz.func80 ?_;intro O w0 E0 β0;have la:(p.arity.map aq).length=p.arity.length:=Aa _;have lb:(p.names.map oq).length=p.names.length:=Aa _;have lc:(p.rules.map dj).length=p.rules.length:=Aa _;refine fx 0 0 rfl rfl (λhk=>?_);refine fx 0 1 rfl rfl (λhk1=>?_);refine fx 0 2 rfl rfl (λhk2=>?_);unfold dc;by_cases h1:10<p.arity.length∨12<p.rules.length
 ·rw [if_pos h1];repeat' (first|refine zr ?_|(refine zm ?_ ?_<;>intro hg)|fail)
  all_goals first
   | (exfalso;omega)
   | exact a6 rfl rfl
 ·rw [if_neg h1];by_cases h2:p.names.length≠p.arity.length
  ·rw [if_pos h2];repeat' (first|refine zr ?_|(refine zm ?_ ?_<;>intro hg)|fail)
   all_goals first
    | (exfalso;omega)
    | exact a6 rfl rfl
  ·rw [if_neg h2];generalize hres:(if jw (qr cz p) 0 p.names.length≠0 then jw (qr cz p) 0 p.names.length else bm (nk p.arity) p.rules)=res;repeat' (first|refine zr ?_|(refine zm ?_ ?_<;>intro hg)|(exfalso;omega))
   refine ag (ι:=Nat) (λi=>⟨1,[(1,.loc 0 0),(2,.d (.int .i64 0)),(3,.d (.int .i64 i))],[(0,prgB p)]⟩)
    (λi=>i<=p.names.length/\jw (qr cz p) 0 p.names.length=jw (qr cz p) i (p.names.length-i)) (λi=>p.names.length-i) 0 ⟨Ak _,rfl⟩ (er id) ?_
   rintro i ⟨g1,g2⟩;by_cases hi:i<p.names.length
   ·have ha:p.arity.getD i 0=p.arity[i]'(by omega):=by rw [A6,Ad (by omega)];rfl
    have hn:p.names.getD i ⟨#[]⟩=p.names[i]:=by rw [A6,Ad hi];rfl
    rw [firstI_step hi,show qr cz p i=if inR (p.arity.getD i 0) 0 3=false then 3 else if cz (p.names.getD i ⟨#[]⟩)=false then 1 else if (p.names.take i).any (λs=>decide (s=p.names.getD i ⟨#[]⟩)) then 6 else 0 from rfl,ha,hn] at g2;have wn:=isName_fn p.names[i];have wa:=ez (p.arity[i]'(by omega)) 0 3;generalize inR (p.arity[i]'(by omega)) 0 3=ba at g2 wa;generalize cz p.names[i]=bn at g2 wn;have hret:∀ e,e≠0->jw (qr cz p) 0 p.names.length=e->e=res:=by
     rintro e he h;rw [<- hres,h,if_pos he]
    cases ba with
    | false =>
     repeat' (first|refine zr ?_|refine z21 ?_ (hc:=by apply wa)|(refine zm ?_ ?_<;>intro hg)|fail)
     all_goals first
      | (exfalso;omega)
      | exact a6 rfl (hret 3 (by decide) g2)
    | true =>
     cases bn with
     | false =>
      repeat' (first|refine zr ?_|refine z21 ?_ (hc:=by apply wa)|refine z21 ?_ (hc:=by apply wn)|(refine zm ?_ ?_<;>intro hg)|fail)
      all_goals first
       | (exfalso;omega)
       | exact a6 rfl (hret 1 (by decide) g2)
     | true =>
      have lt:(p.names.take i).length=i:=by simp;omega
      repeat' (first|refine zs ?_|refine z21 ?_ (hc:=by apply wa)|refine z21 ?_ (hc:=by apply wn)|(refine zm ?_ ?_<;>intro hg)|(exfalso;omega))
      refine ag (ι:=Nat) (λj=>⟨1,[(1,.loc 0 0),(2,.d (.int .i64 0)),(3,.d (.int .i64 i)),(4,.d (.int .i64 j))],[(0,prgB p)]⟩)
       (λj=>j<=i/\(p.names.take i).any (λs=>decide (s=p.names[i]))=((p.names.take i).drop j).any (λs=>decide (s=p.names[i]))) (λj=>i-j) 0 ⟨Ak _,rfl⟩ (er id) ?_
      rintro j ⟨e1,e2⟩;by_cases hj:j<i
      ·rw [Am (by omega),List.any_cons,List.getElem_take] at e2;repeat' (first|refine zr ?_|(refine zm ?_ ?_<;>intro hg)|(exfalso;omega))
       ·have hh:p.names[j]'(by omega)=p.names[i]:=by assumption
        rw [decide_eq_true hh,Bool.true_or] at e2;rw [e2] at g2;exact a6 rfl (hret 6 (by decide) g2)
       ·have hh:¬ p.names[j]'(by omega)=p.names[i]:=by assumption
        rw [decide_eq_false hh,Bool.false_or] at e2;exact⟨j+1,⟨by omega,e2⟩,er id,by show i-(j+1)<i-j;omega⟩
      ·rw [As (by omega)] at e2;rw [e2] at g2;repeat' (first|refine zr ?_|(refine zm ?_ ?_<;>intro hg)|(exfalso;omega))
       exact⟨i+1,⟨by omega,g2⟩,er id,by show p.names.length-(i+1)<p.names.length-i;omega⟩
   ·rw [firstI_end (by omega)] at g2;have hres:bm (nk p.arity) p.rules=res:=by rw [<- hres,g2,if_neg (by decide)]
    repeat' (first|refine zs ?_|(refine zm ?_ ?_<;>intro hg)|(exfalso;omega))
    refine ag (ι:=Nat) (λj=>⟨1,[(1,.loc 0 0),(2,.d (.int .i64 0)),(5,.d (.int .i64 j))],[(0,prgB p)]⟩)
     (λj=>j<=p.rules.length/\res=bm (nk p.arity) (p.rules.drop j)) (λj=>p.rules.length-j) 0 ⟨Ak _,hres.symm⟩ (er id) ?_
    rintro j ⟨e1,e2⟩;by_cases hj:j<p.rules.length
    ·rw [ga hj] at e2;have w6:=rrule_fn p p.rules[j];generalize nk p.arity p.rules[j]=le at w6 e2;repeat' (first|refine zr ?_|refine z22 ?_ (hc:=by apply w6)|(refine zm ?_ ?_<;>intro hg)|fail)
     all_goals first
      | (exfalso;omega)
      | (refine a6 rfl ?_;rw [e2,if_pos (by assumption)];done)
      | exact⟨j+1,⟨by omega,by rw [e2,if_neg (by assumption)]⟩,er id,by show p.rules.length-(j+1)<p.rules.length-j;omega⟩
    ·rw [ir (by omega)] at e2;repeat' (first|refine zr ?_|(refine zm ?_ ?_<;>intro hg)|fail)
     all_goals first
      | (exfalso;omega)
      | exact a6 rfl e2.symm
theorem tokAt_37 (l:List UInt8):(ct (37::l)).1=0:=by
 rw [fb,if_neg (by unfold e7 gv ju;decide),if_neg (by unfold da;decide),if_neg (by unfold ml;cases l<;>simp),if_neg (by decide)]
theorem tokAt_32 (l:List UInt8):(ct (32::l)).1=0:=by
 rw [fb,if_neg (by unfold e7 gv ju;decide),if_neg (by unfold da;decide),if_neg (by unfold ml;cases l<;>simp),if_neg (by decide)]
theorem tokAt_9 (l:List UInt8):(ct (9::l)).1=0:=by
 rw [fb,if_neg (by unfold e7 gv ju;decide),if_neg (by unfold da;decide),if_neg (by unfold ml;cases l<;>simp),if_neg (by decide)]
theorem tokAt_10 (l:List UInt8):(ct (10::l)).1=0:=by
 rw [fb,if_neg (by unfold e7 gv ju;decide),if_neg (by unfold da;decide),if_neg (by unfold ml;cases l<;>simp),if_neg (by decide)]
theorem tokErr_kind {k:Int} {n:Nat} {c:UInt8} (h:eu k n c=0):k≠0:=by
 intro hk;rw [tokErr_eq,if_pos hk] at h;cases h
theorem drop_byte (s:ByteArray) (i:Nat) (h:i<s.size):s.data.toList.drop i=s[i]::s.data.toList.drop (i+1):=by
 rw [Am (by simpa using h)];rfl
theorem ext_list (s:ByteArray) (i n:Nat):(s.extract i (i+n)).data.toList=(s.data.toList.drop i).take n:=by
 simp [ByteArray.data_extract,Array.toList_extract,List.extract_eq_take_drop]
theorem bytes_inj {a b:ByteArray} (h:a.data.toList=b.data.toList):a=b:=ByteArray.ext (Array.ext' h)
theorem scan_one (s:ByteArray) (i:Nat) (k:Int) (n:Nat) (h:i<s.size) (ht:ct (s.data.toList.drop i)=(k,n)) (he:eu k n s[i]=0) :
  c7 s false i=(c7 s false (i+n)).map (Tok.mk k i (s.extract i (i+n))::·):=by
 have hk:=tokErr_kind he;have hd:=drop_byte s i h;have hb:∀ c:UInt8,(∀ l,(ct (c::l)).1=0)->s[i]≠c:=by
  intro c hc e;rw [hd,e] at ht;have:=hc (s.data.toList.drop (i+1))
  rw [ht] at this;exact hk this
 have h37:=hb 37 tokAt_37;have h32:=hb 32 tokAt_32;have h9:=hb 9 tokAt_9;have h10:=hb 10 tokAt_10;have:=scanAt_tok s i h (by simpa using h37) (by simp [h32,h9,h10]) (by rw [ht];exact he)
 rw [ht] at this;exact this
def Chain (s:ByteArray):Nat->List Tok->Prop
 | _,[]=>True
 | i,t::l=>∃ j,i<=j/\t.at_=j/\(∃ h:j<s.size,ct (s.data.toList.drop j)=(t.kind,t.text.size)/\eu t.kind t.text.size s[j]=0)/\j+t.text.size<=s.size/\t.text=s.extract j (j+t.text.size)/\Chain s (j+t.text.size) l
theorem Chain.mono {s:ByteArray} {i i':Nat} {l:List Tok} (h:Chain s i' l) (hi:i<=i'):Chain s i l:=by
 cases l with
 | nil=>trivial
 | cons t l =>
  obtain⟨j,h1,h2⟩:=h;exact⟨j,A5 hi h1,h2⟩
theorem scanGo_chain (s:ByteArray):∀ (f:Nat) (note:Bool) (i:Nat) (l:List Tok),gw s f note i = .ok l->Chain s i l:=by
 intro f;induction f with
 | zero =>
  intro note i l h;simp only [gw] at h;cases h;trivial
 | succ f ih =>
  intro note i l h;simp only [gw] at h;by_cases hi:i<s.size
  ·rw [dif_pos hi] at h;split at h
   ·exact (ih _ _ _ h).mono (by omega)
   ·split at h
    ·exact (ih _ _ _ h).mono (by omega)
    ·split at h
     ·rename_i he;cases hr:gw s f false (i+(ct (s.data.toList.drop i)).2) with
      | error e=>rw [hr] at h;cases h
      | ok l' =>
       rw [hr] at h;cases h;have hle:=tokAt_le (s.data.toList.drop i);rw [List.length_drop,show s.data.toList.length=s.size from A2] at hle;have hsz:(s.extract i (i+(ct (s.data.toList.drop i)).2)).size=(ct (s.data.toList.drop i)).2:=by rw [ByteArray.size_extract];omega
       exact⟨i,Ah _,rfl,⟨hi,by rw [hsz],by rw [hsz];exact he⟩,by rw [hsz];omega,by rw [hsz],by rw [hsz];exact ih _ _ _ hr⟩
     ·cases h
  ·rw [dif_neg hi] at h;cases h;trivial
theorem scanGo_err (s:ByteArray):∀ (f:Nat) (note:Bool) (i:Nat) (p e:Int),gw s f note i = .error (p,e)->e≠0:=by
 intro f;induction f with
 | zero =>
  intro note i p e h;simp only [gw] at h;cases h
 | succ f ih =>
  intro note i p e h;simp only [gw] at h;by_cases hi:i<s.size
  ·rw [dif_pos hi] at h;split at h
   ·exact ih _ _ _ _ h
   ·split at h
    ·exact ih _ _ _ _ h
    ·split at h
     ·cases hr:gw s f false (i+(ct (s.data.toList.drop i)).2) with
      | error e'=>rw [hr] at h;cases h;exact ih _ _ _ _ hr
      | ok l'=>rw [hr] at h;cases h
     ·rename_i he;injection h with h
      injection h with h1 h2
      rw [<- h2];exact he
  ·rw [dif_neg hi] at h;cases h
theorem scanS_chain (s:ByteArray) (l:List Tok) (p:Int) (h:vd s=(l,p,0)):Chain s 0 l/\s.size<=5000/\p=0:=by
 unfold vd at h;split at h
 ·injection h with h1 h2;injection h2 with h2 h3;cases h3
 ·rename_i hs;split at h
  ·rename_i l' hl;injection h with h1 h2
   injection h2 with h2 h3
   subst h1;unfold c7 at hl;exact⟨scanGo_chain _ _ _ _ _ hl,by omega,h2.symm⟩
  ·rename_i p' e hl;injection h with h1 h2
   injection h2 with h2 h3
   subst h1;unfold c7 at hl;exact absurd h3 (scanGo_err _ _ _ _ _ _ hl)
theorem isTok_eq (kind:Int) (s:ByteArray):isTok kind s=true↔∃ h:0<s.size,s.size<=5000/\ct s.data.toList=(kind,s.size)/\eu kind s.size s[0]=0:=by
 unfold isTok;by_cases h:0<s.size
 ·rw [dif_pos h];simp only [Ae,decide_eq_true_eq];constructor
  ·rintro⟨⟨⟨⟨h1,h2⟩,h3⟩,h4⟩,h5⟩;exact⟨h,h1,Prod.ext h3 h4,h5⟩
  ·rintro⟨_,h1,h2,h3⟩;exact⟨⟨⟨⟨h1,tokErr_kind h3⟩,by rw [h2]⟩,by rw [h2]⟩,h3⟩
 ·rw [dif_neg h];exact⟨λh'=>absurd h' Bool.false_ne_true,fun⟨h',_⟩=>absurd h' h⟩
theorem oneS_eq (kind:Int) (s:ByteArray):oneS kind s=isTok kind s:=by
 rw [Bool.eq_iff_iff,isTok_eq];constructor
 ·intro h;unfold oneS at h;split at h
  ·rename_i t p e hs;simp only [Ae,decide_eq_true_eq] at h;obtain⟨h1,h2,h3⟩:=h;subst h1;obtain⟨⟨j,g1,g2,⟨g3,g4,g5⟩,g6,g7,_⟩,hsz,_⟩:=scanS_chain s [t] p hs;rw [h3] at g4 g5 g6;have hj:j=0:=by omega
   subst hj;rw [h2] at g4 g5;exact⟨g3,hsz,g4,g5⟩
  ·cases h
 ·rintro⟨h,h1,h2,h3⟩;have:=scan_one s 0 kind s.size h h2 h3
  rw [tp s false (0+s.size) (by omega)] at this;have hext:s.extract 0 (0+s.size)=s:=bytes_inj (by rw [ext_list,List.drop_zero];exact Ai (Nat.le_of_eq (A2 (xs:=s.data))));rw [hext] at this;unfold oneS;rw [scanS_ok s (by omega) _ this];simp
end
section
open Go Go.RowKit
theorem name_eq:xh=cz:=by
 funext s;unfold xh cz;rw [oneS_eq]
theorem scheck_fn (p:Prg):Fn 109 [gu p] (λx=>x = .d (.int .i64 (dc cz p))):=name_eq▸check_fn p
def qz (arity:List Int) (l:List Fct):Int:=if 60<l.length then 2 else bm (e8 arity) l
attribute [local irreducible] DW DS DL DQ Ev FnOk FnP ef bt DT
theorem right1_fn (n:Int):Fn 127 [.d (.int .i64 n)] (λr=>r = .d (.bool (!numB n))):=by
 refine fqE Tryz.func127 ?_;intro O w0 E0 β0;repeat' (first|refine zr ?_|refine z21 ?_ (hc:=by apply qg)|fail)
 exact⟨.inl rfl,_,rfl,rfl,rfl⟩
theorem fright_fn (p:Prg) (x:Fct):Fn 70 [gu p,fi x] (λr=>r = .d (.int .i64 (e8 p.arity x))):=by
 refine fqE Tryz.func70 ?_;intro O w0 E0 β0;have la:(p.arity.map aq).length=p.arity.length:=Aa _;have lx:(x.args.map aq).length=x.args.length:=Aa _;refine fx 0 0 rfl rfl λhk=>?_
 have w1:=q9 (caps:=[]) (f:=127) (λn=>!numB n) x.args rfl (λn _=>right1_fn n);have w0:Fn 125 [.d (.int .i64 x.pred),.d (.int .i64 0),.d (.int .i64 (((p.arity.map aq).length:Int)-1))] (λr=>r = .d (.bool (inR x.pred 0 ((p.arity.length:Int)-1)))):=by rw [la];exact fc _ _ _
 unfold e8;cases h1:inR x.pred 0 ((p.arity.length:Int)-1) with
 | false =>
  rw [h1] at w0;rw [if_pos rfl];repeat' (first|refine zr ?_|refine z21 ?_ (hc:=by apply w0)|(exfalso;omega))
  exact⟨.inl rfl,_,rfl,rfl,rfl⟩
 | true =>
  rw [h1] at w0;rw [if_neg (by simp)];have hr:0<=x.pred/\x.pred<p.arity.length:=by unfold inR at h1;simp at h1;omega
  have hlt:x.pred.toNat<p.arity.length:=by omega
  have hg':p.arity.getD x.pred.toNat 0=p.arity[x.pred.toNat]:=by rw [A6,Ad hlt];rfl
  rw [hg'];by_cases h2:(x.args.length:Int)≠p.arity[x.pred.toNat]
  ·rw [if_pos h2];repeat' (first|refine zr ?_|refine z21 ?_ (hc:=by apply w0)|(refine zm ?_ ?_<;>intro hg)|(exfalso;omega))
   exact⟨.inl rfl,_,rfl,rfl,rfl⟩
  ·rw [if_neg h2];cases h3:x.args.any (λn=>!numB n) with
   | true =>
    rw [h3] at w1;repeat' (first|refine zr ?_|refine z21 ?_ (hc:=by apply w0)|refine z21 ?_ (hc:=by apply w1)|(refine zm ?_ ?_<;>intro hg)|(exfalso;omega))
    exact⟨.inl rfl,_,rfl,rfl,rfl⟩
   | false =>
    rw [h3] at w1;repeat' (first|refine zr ?_|refine z21 ?_ (hc:=by apply w0)|refine z21 ?_ (hc:=by apply w1)|(refine zm ?_ ?_<;>intro hg)|(exfalso;omega))
    exact⟨.inl rfl,_,rfl,rfl,rfl⟩
theorem checkFact_fn (p:Prg) (x:Fct):Fn 147 [gu p,fi x] (λr=>r = .d (.int .i64 (e8 p.arity x))):=by
 refine fqE Tryz.func147 ?_;intro O w0 E0 β0;have la:(p.arity.map aq).length=p.arity.length:=Aa _;have lx:(x.args.map aq).length=x.args.length:=Aa _;refine fx 0 0 rfl rfl λhk=>?_
 refine fx 1 1 rfl rfl λhk1=>?_
 have w0:Fn 87 [.d (.int .i64 x.pred),.d (.int .i64 0),.d (.int .i64 (((p.arity.map aq).length:Int)-1))] (λr=>r = .d (.bool (inR x.pred 0 ((p.arity.length:Int)-1)))):=by rw [la];exact rn _ _ _
 unfold e8;cases h1:inR x.pred 0 ((p.arity.length:Int)-1) with
 | false =>
  rw [h1] at w0;rw [if_pos rfl];repeat' (first|refine zr ?_|refine z21 ?_ (hc:=by apply w0)|(exfalso;omega))
  exact⟨.inl rfl,_,rfl,rfl,rfl⟩
 | true =>
  rw [h1] at w0;rw [if_neg (by simp)];have hr:0<=x.pred/\x.pred<p.arity.length:=by unfold inR at h1;simp at h1;omega
  have hlt:x.pred.toNat<p.arity.length:=by omega
  have hg':p.arity.getD x.pred.toNat 0=p.arity[x.pred.toNat]:=by rw [A6,Ad hlt];rfl
  rw [hg'];by_cases h2:(x.args.length:Int)≠p.arity[x.pred.toNat]
  ·rw [if_pos h2];repeat' (first|refine zr ?_|refine z21 ?_ (hc:=by apply w0)|(refine zm ?_ ?_<;>intro hg)|(exfalso;omega))
   exact⟨.inl rfl,_,rfl,rfl,rfl⟩
  ·rw [if_neg h2];repeat' (first|refine zr ?_|refine z21 ?_ (hc:=by apply w0)|(refine zm ?_ ?_<;>intro hg)|(exfalso;omega))
   refine ag (ι:=Nat) (λi=>⟨2,[(3,.loc 1 0),(5,.d (.int .i64 i))],[(1,.blk 37 [.d (.int .i64 x.pred),.d (.slice 1 (x.args.map aq))])]⟩)
    (λi=>i<=x.args.length/\∀ j (_:j<x.args.length),j<i->numB x.args[j]=true) (λi=>x.args.length-i) 0 ⟨Ak _,λ_ _ h=>by omega⟩ (er id) ?_
   rintro i ⟨g1,g2⟩;dsimp only at g1 g2 ⊢;by_cases hi:i<x.args.length
   ·have w2:=kl x.args[i];cases hb:numB x.args[i] with
    | false =>
     rw [hb] at w2;rw [if_pos (List.any_eq_true.2 ⟨_,Aj hi,by rw [hb];rfl⟩)];repeat' (first|refine zr ?_|refine z21 ?_ (hc:=by apply w2)|(refine zm ?_ ?_<;>intro hg)|(exfalso;omega))
     all_goals exact⟨.inl rfl,_,rfl,rfl,rfl⟩
    | true =>
     rw [hb] at w2;repeat' (first|refine zr ?_|refine z21 ?_ (hc:=by apply w2)|(refine zm ?_ ?_<;>intro hg)|(exfalso;omega))
     exact⟨i+1,⟨hi,λj hj hji=>by
      by_cases hq:j=i
      ·subst hq;exact hb
      ·exact g2 j hj (by omega)⟩,er id,by omega⟩
   ·have hno:¬ x.args.any (λn=>!numB n)=true:=by
     rw [List.any_eq_true];rintro⟨n,hn,hb⟩;obtain⟨j,hj,rfl⟩:=List.mem_iff_getElem.1 hn;rw [g2 j hj (by omega)] at hb;cases hb
    rw [if_neg hno];repeat' (first|refine zr ?_|(refine zm ?_ ?_<;>intro hg)|(exfalso;omega))
    all_goals exact⟨.inl rfl,_,rfl,rfl,rfl⟩
theorem checkFacts_fn (p:Prg) (l:List Fct):Fn 112 [gu p,.d (.slice 2 (l.map ae))] (λr=>r = .d (.int .i64 (qz p.arity l))):=by
 refine fqE Tryz.func112 ?_;intro O w0 E0 β0;have ll:(l.map ae).length=l.length:=Aa _;unfold qz;by_cases h2:60<l.length
 ·rw [if_pos h2];repeat' (first|refine zr ?_|(refine zm ?_ ?_<;>intro hg)|(exfalso;omega))
  all_goals exact⟨.inl rfl,_,rfl,rfl,rfl⟩
 ·rw [if_neg h2];repeat' (first|refine zr ?_|(refine zm ?_ ?_<;>intro hg)|(exfalso;omega))
  refine ag (ι:=Nat) (λi=>⟨1,[(1,.d (.slice 2 (l.map ae))),(2,.loc 0 0),(5,.d (.int .i64 i))],[(0,.blk 26 [.d (.slice 1 (p.arity.map aq)),.d (.slice 1 (p.names.map oq)),.d (.slice 5 (p.rules.map dj))])]⟩)
   (λi=>i<=l.length/\bm (e8 p.arity) l=bm (e8 p.arity) (l.drop i)) (λi=>l.length-i) 0 ⟨Ak _,rfl⟩ (er id) ?_
  rintro i ⟨g1,g2⟩;dsimp only at g1 g2 ⊢;by_cases hi:i<l.length
  ·rw [ga hi] at g2;have w2:=checkFact_fn p l[i];by_cases h3:e8 p.arity l[i]≠0
   ·rw [if_pos h3] at g2;rw [g2];repeat' (first|refine zr ?_|refine z22 ?_ (hc:=by apply w2)|(refine zm ?_ ?_<;>intro hg)|(exfalso;omega))
    all_goals exact⟨.inl rfl,_,rfl,rfl,rfl⟩
   ·rw [if_neg h3] at g2;repeat' (first|refine zr ?_|refine z22 ?_ (hc:=by apply w2)|(refine zm ?_ ?_<;>intro hg)|(exfalso;omega))
    exact⟨i+1,⟨hi,g2⟩,er id,by omega⟩
  ·rw [ir (by omega)] at g2;rw [g2];repeat' (first|refine zr ?_|(refine zm ?_ ?_<;>intro hg)|(exfalso;omega))
   all_goals exact⟨.inl rfl,_,rfl,rfl,rfl⟩
def minI (n y:Int):Int:=if y<n then y else n
def maxI (n y:Int):Int:=if n<y then y else n
def minL:List Int->Int
 | []=>0
 | x::l=>l.foldl minI x
def maxL:List Int->Int
 | []=>0
 | x::l=>l.foldl maxI x
def dt (fold:Int) (st:Int×Int) (x:Int):Int×Int :=
 (if fold=1 then st.2+1 else if fold=2 then st.1+x else if st.2+1=1∨(fold=3/\x<st.1)∨(fold=4/\st.1<x) then x else st.1,st.2+1)
def pg (fold:Int) (l:List Int):Int:=(l.foldl (dt fold) (0,0)).1
def valP (fold:Int) (l:List Int):Int:=if fold=1 then l.length else if fold=3 then minL l else if fold=4 then maxL l else l.sum
def okP (fold:Int) (l:List Int):Bool:=if fold=1∨fold=3∨fold=4 then true else numB l.sum
theorem stepN_1:∀ (l:List Int) (n m:Int),l≠[]->(l.foldl (dt 1) (n,m)).1=m+l.length
 | [x],n,m,_=>by simp [dt]
 | x::y::l,n,m,_=>by
  rw [Bf,show dt 1 (n,m) x=(m+1,m+1) by simp [dt],stepN_1 (y::l) _ _ (by simp)]
  simp only [List.length_cons];omega
theorem stepN_2:∀ (l:List Int) (n m:Int),(l.foldl (dt 2) (n,m)).1=n+l.sum
 | [],n,m=>by simp
 | x::l,n,m=>by
  rw [Bf,show dt 2 (n,m) x=(n+x,m+1) by simp [dt],stepN_2 l,List.sum_cons];omega
theorem stepN_3:∀ (l:List Int) (n m:Int),1<=m->(l.foldl (dt 3) (n,m)).1=l.foldl minI n
 | [],n,m,_=>rfl
 | x::l,n,m,hm=>by
  have:dt 3 (n,m) x=(minI n x,m+1):=by
   unfold dt minI;have:¬ (m+1=1):=by omega
   simp [this]
  rw [Bf,this,stepN_3 l _ _ (by omega),Bf]
theorem stepN_4:∀ (l:List Int) (n m:Int),1<=m->(l.foldl (dt 4) (n,m)).1=l.foldl maxI n
 | [],n,m,_=>rfl
 | x::l,n,m,hm=>by
  have:dt 4 (n,m) x=(maxI n x,m+1):=by
   unfold dt maxI;have:¬ (m+1=1):=by omega
   simp [this]
  rw [Bf,this,stepN_4 l _ _ (by omega),Bf]
theorem minI_in {P:Int->Prop}:∀ (l:List Int) (n:Int),P n->(∀ x∈l,P x)->P (l.foldl minI n)
 | [],_,h,_=>h
 | x::l,n,h,hl=>by
  rw [Bf]
  refine minI_in l _ ?_ λy hy=>hl y (Ag _ hy)
  unfold minI;split
  ·exact hl x (Ac ..)
  ·exact h
theorem maxI_in {P:Int->Prop}:∀ (l:List Int) (n:Int),P n->(∀ x∈l,P x)->P (l.foldl maxI n)
 | [],_,h,_=>h
 | x::l,n,h,hl=>by
  rw [Bf]
  refine maxI_in l _ ?_ λy hy=>hl y (Ag _ hy)
  unfold maxI;split
  ·exact hl x (Ac ..)
  ·exact h
theorem numB_of {n:Int} (h:-1000000<=n/\n<=1000000):numB n=true:=by unfold numB inR;simp;omega
theorem fold_same {fold:Int} {l:List Int} (hf:fold=1∨fold=2∨fold=3∨fold=4) (hl:l≠[]) (hn:∀ x∈l,-1000000<=x/\x<=1000000) (hlen:l.length<=1000000) :
  pg fold l=valP fold l/\numB (pg fold l)=okP fold l:=by
 have key:pg fold l=valP fold l:=by
  unfold pg valP;rcases hf with rfl|rfl|rfl|rfl
  ·rw [stepN_1 l _ _ hl];simp
  ·rw [stepN_2];simp
  ·obtain⟨x,l,rfl⟩:=D2 hl;rw [Bf,show dt 3 (0,0) x=(x,1) by simp [dt],stepN_3 _ _ _ (by omega)];simp [minL]
  ·obtain⟨x,l,rfl⟩:=D2 hl;rw [Bf,show dt 4 (0,0) x=(x,1) by simp [dt],stepN_4 _ _ _ (by omega)];simp [maxL]
 refine⟨key,?_⟩
 rw [key];unfold valP okP;rcases hf with rfl|rfl|rfl|rfl
 ·simp only [if_true,true_or];exact numB_of (by omega)
 ·simp
 ·obtain⟨x,l,rfl⟩:=D2 hl;simp only [show ¬ ((3:Int)=1) by omega,if_false,if_true,true_or,or_true];exact numB_of (minI_in (P:=λz=>-1000000<=z/\z<=1000000) l x (hn x (Ac ..)) λy hy=>hn y (Ag _ hy))
 ·obtain⟨x,l,rfl⟩:=D2 hl;simp only [show ¬ ((4:Int)=1) by omega,show ¬ ((4:Int)=3) by omega,if_false,if_true,or_true];exact numB_of (maxI_in (P:=λz=>-1000000<=z/\z<=1000000) l x (hn x (Ac ..)) λy hy=>hn y (Ag _ hy))
abbrev Gr:=List Int×List Int
def lz (ws:List (List Int×Int)) (p:List Int):List Int:=(ws.filter λw=>decide (w.1=p)).map (·.2)
def addG (gs:List Gr) (w:List Int×Int):List Gr:=match gs[gs.findIdx λg=>decide (g.1=w.1)]? with
 | some g=>gs.set (gs.findIdx λg=>decide (g.1=w.1)) (g.1,g.2++[w.2])
 | none=>gs++[(w.1,[w.2])]
def ur (ws:List (List Int×Int)):List Gr:=ws.foldl addG []
structure InvG (gs:List Gr) (ws:List (List Int×Int)):Prop where
 uniq:∀ (j k:Nat) (g h:Gr),gs[j]?=some g->gs[k]?=some h->g.1=h.1->j=k
 vals:∀ g∈gs,g.2=lz ws g.1
 here:∀ g∈gs,∃ w∈ws,w.1=g.1
 all:∀ w∈ws,∃ g∈gs,g.1=w.1
theorem grpL_snoc (ws:List (List Int×Int)) (w:List Int×Int) (p:List Int):lz (ws++[w]) p=lz ws p++if w.1=p then [w.2] else []:=by
 unfold lz;rw [List.filter_append,Ar];congr 1;by_cases h:w.1=p
 ·simp [h]
 ·simp [h]
theorem grpL_none {ws:List (List Int×Int)} {p:List Int} (h:∀ w∈ws,w.1≠p):lz ws p=[]:=by
 unfold lz;rw [List.filter_eq_nil_iff.2 λw hw=>by simpa using h w hw];rfl
theorem addG_inv {gs:List Gr} {ws:List (List Int×Int)} {w:List Int×Int} (h:InvG gs ws):InvG (addG gs w) (ws++[w]):=by
 unfold addG;cases hx:gs[gs.findIdx λg=>decide (g.1=w.1)]? with
 | none =>
  have hn:∀ g∈gs,g.1≠w.1:=by
   intro g hg he;have:=List.findIdx_lt_length_of_exists (xs:=gs) (p:=λg=>decide (g.1=w.1)) ⟨g,hg,decide_eq_true he⟩
   rw [Ad this] at hx;cases hx
  refine⟨λj k g g' hj hk he=>?_,λg hg=>?_,λg hg=>?_,λx hx=>?_⟩
  ·rw [List.getElem?_append] at hj hk;by_cases h1:j<gs.length<;>by_cases h2:k<gs.length
   ·rw [if_pos h1] at hj;rw [if_pos h2] at hk;exact h.uniq j k g g' hj hk he
   ·rw [if_pos h1] at hj;rw [if_neg h2] at hk;have hg':g'=(w.1,[w.2]):=by
     by_cases h3:k-gs.length=0
     ·rw [h3] at hk;simpa using hk.symm
     ·rw [A8 (by simp;omega)] at hk;cases hk
    rw [hg'] at he;exact absurd he (hn g (By hj))
   ·rw [if_neg h1] at hj;rw [if_pos h2] at hk;have hg':g=(w.1,[w.2]):=by
     by_cases h3:j-gs.length=0
     ·rw [h3] at hj;simpa using hj.symm
     ·rw [A8 (by simp;omega)] at hj;cases hj
    rw [hg'] at he;exact absurd he.symm (hn g' (By hk))
   ·rw [if_neg h1] at hj;rw [if_neg h2] at hk;have h3:j-gs.length=0:=by
     apply Bc;intro h3;rw [A8 (by simp;omega)] at hj;cases hj
    have h4:k-gs.length=0:=by
     apply Bc;intro h4;rw [A8 (by simp;omega)] at hk;cases hk
    omega
  ·rw [grpL_snoc];rcases List.mem_append.1 hg with hg|hg
   ·rw [if_neg (Ne.symm (hn g hg)),Bt];exact h.vals g hg
   ·rw [A1] at hg;subst hg;rw [if_pos rfl,grpL_none λx hx he=>?_];· rfl
    obtain⟨g,hg,hge⟩:=h.all x hx;exact hn g hg (hge.trans he)
  ·rcases List.mem_append.1 hg with hg|hg
   ·obtain⟨x,h1,h2⟩:=h.here g hg;exact⟨x,Ax _ h1,h2⟩
   ·rw [A1] at hg;subst hg;exact⟨w,B1 _ (by simp),rfl⟩
  ·rcases List.mem_append.1 hx with hx|hx
   ·obtain⟨g,h1,h2⟩:=h.all x hx;exact⟨g,Ax _ h1,h2⟩
   ·rw [A1] at hx;subst hx;exact⟨_,B1 _ (List.mem_singleton.2 rfl),rfl⟩
 | some g0 =>
  obtain⟨hi,hg0⟩:=List.getElem?_eq_some_iff.1 hx;have hk0:g0.1=w.1:=by
   have:=List.findIdx_getElem (xs:=gs) (p:=λg=>decide (g.1=w.1)) (w:=hi)
   rw [hg0] at this;exact of_decide_eq_true this
  simp only;generalize gs.findIdx (λg=>decide (g.1=w.1))=i at hx hi hg0;have hget:∀ (j:Nat) (g:Gr),(gs.set i (g0.1,g0.2++[w.2]))[j]?=some g->∃ g',gs[j]?=some g'/\g.1=g'.1/\((j=i/\g=(g0.1,g0.2++[w.2]))∨(j≠i/\g=g')):=by
   intro j g hj;by_cases hq:i=j
   ·subst hq;rw [B4 hi] at hj;cases hj;exact⟨g0,hx,rfl,.inl ⟨rfl,rfl⟩⟩
   ·rw [Ce hq] at hj;exact⟨g,hj,rfl,.inr ⟨Ne.symm hq,rfl⟩⟩
  refine⟨λj k g g' hj hk he=>?_,λg hg=>?_,λg hg=>?_,λx hx'=>?_⟩
  ·obtain⟨a,a1,a2,_⟩:=hget j g hj;obtain⟨b,b1,b2,_⟩:=hget k g' hk;exact h.uniq j k a b a1 b1 (a2.symm.trans (he.trans b2))
  ·obtain⟨j,hj⟩:=E7 hg;obtain⟨a,a1,a2,a3⟩:=hget j g hj;rw [grpL_snoc];rcases a3 with ⟨rfl,rfl⟩|⟨a3,rfl⟩
   ·rw [if_pos hk0.symm];simp only;rw [h.vals g0 (By hx)]
   ·rw [if_neg λhe=>a3 (h.uniq j i g g0 a1 hx (he.symm.trans hk0.symm)),Bt];exact h.vals g (By a1)
  ·obtain⟨j,hj⟩:=E7 hg;obtain⟨a,a1,a2,_⟩:=hget j g hj;obtain⟨x,h1,h2⟩:=h.here a (By a1);exact⟨x,Ax _ h1,h2.trans a2.symm⟩
  ·have hmem:∀ a∈gs,∃ g∈gs.set i (g0.1,g0.2++[w.2]),g.1=a.1:=by
    intro a ha;obtain⟨j,hj⟩:=E7 ha;by_cases hq:i=j
    ·subst hq;rw [hx] at hj;cases hj;exact⟨_,By (B4 hi),rfl⟩
    ·exact⟨a,By ((Ce hq).trans hj),rfl⟩
   rcases List.mem_append.1 hx' with hx'|hx'
   ·obtain⟨a,h1,h2⟩:=h.all x hx';obtain⟨g,k1,k2⟩:=hmem a h1;exact⟨g,k1,k2.trans h2⟩
   ·rw [A1] at hx';subst hx';obtain⟨g,k1,k2⟩:=hmem g0 (By hx);exact⟨g,k1,k2.trans hk0⟩
theorem groups_inv':∀ (ws vs:List (List Int×Int)) (gs:List Gr),InvG gs vs->InvG (ws.foldl addG gs) (vs++ws)
 | [],vs,gs,h=>by rw [Bt];exact h
 | w::ws,vs,gs,h=>by
  have:=groups_inv' ws (vs++[w]) (addG gs w) (addG_inv h)
  rw [List.append_assoc] at this
  exact this
theorem groups_inv (ws:List (List Int×Int)):InvG (ur ws) ws:=by
 have:=groups_inv' ws [] [] ⟨λ_ _ _ _ h=>by simp at h,λ_ h=>by simp at h,λ_ h=>by simp at h,λ_ h=>by simp at h⟩
 rw [H0] at this;exact this
def aW (r:Rul) (w:List Int):List Int:=r.terms.map (vA w)
def pW (r:Rul) (w:List Int):List Int×Int:=((aW r w).take (r.terms.length-1),(aW r w).getD (r.terms.length-1) 0)
def jm (r:Rul) (ways:List (List Int)):List Fct:=if r.fold=0 then ways.map λw=>⟨r.pred,aW r w⟩
 else ways.filterMap λw=>if numB (pg r.fold (lz (ways.map (pW r)) (pW r w).1)) then some ⟨r.pred,(pW r w).1++[pg r.fold (lz (ways.map (pW r)) (pW r w).1)]⟩ else none
def headsP (r:Rul) (ways:List (List Int)):List Fct:=if r.fold=0 then ways.map λw=>⟨r.pred,aW r w⟩
 else (ur (ways.map (pW r))).filterMap λg=>if okP r.fold g.2 then some ⟨r.pred,g.1++[valP r.fold g.2]⟩ else none
theorem heads_mem {r:Rul} {ways:List (List Int)} (hf:0<=r.fold/\r.fold<=4) (hn:∀ w∈ways,-1000000<=(pW r w).2/\(pW r w).2<=1000000) (hlen:ways.length<=1000000):∀ x,x∈headsP r ways↔x∈jm r ways:=by
 intro x;unfold headsP jm;by_cases h0:r.fold=0
 ·rw [if_pos h0,if_pos h0]
 ·rw [if_neg h0,if_neg h0];have hI:=groups_inv (ways.map (pW r));have hfs:∀ p,(∃ w∈ways.map (pW r),w.1=p)->pg r.fold (lz (ways.map (pW r)) p)=valP r.fold (lz (ways.map (pW r)) p)/\numB (pg r.fold (lz (ways.map (pW r)) p))=okP r.fold (lz (ways.map (pW r)) p):=by
   rintro p ⟨w,hw,rfl⟩;refine fold_same (by omega) ?_ ?_ ?_
   ·unfold lz;intro hc;have:w.2∈((ways.map (pW r)).filter λz=>decide (z.1=w.1)).map (·.2):=List.mem_map.2 ⟨w,List.mem_filter.2 ⟨hw,by simp⟩,rfl⟩
    rw [hc] at this;simp at this
   ·intro y hy;obtain⟨z,hz,rfl⟩:=List.mem_map.1 hy;obtain⟨u,hu,rfl⟩:=List.mem_map.1 (List.mem_filter.1 hz).1;exact hn u hu
   ·unfold lz;rw [Aa];refine A5 (List.length_filter_le _ _) ?_;rw [Aa];exact hlen
  rw [Ep,Ep];constructor
  ·rintro⟨g,hg,hx⟩;obtain⟨w,hw,hwg⟩:=hI.here g hg;obtain⟨u,hu,rfl⟩:=List.mem_map.1 hw;obtain⟨f1,f2⟩:=hfs g.1 ⟨_,hw,hwg⟩;refine⟨u,hu,?_⟩
   rw [hwg,f2,f1,<- hI.vals g hg];exact hx
  ·rintro⟨u,hu,hx⟩;obtain⟨g,hg,hwg⟩:=hI.all (pW r u) (Ej hu);obtain⟨f1,f2⟩:=hfs g.1 ⟨_,Ej hu,hwg.symm⟩;refine⟨g,hg,?_⟩
   rw [hI.vals g hg,<- f1,<- f2,hwg];exact hx
theorem heads_set {r:Rul} {ways:List (List Int)} (hf:0<=r.fold/\r.fold<=4) (hn:∀ w∈ways,-1000000<=(pW r w).2/\(pW r w).2<=1000000) (hlen:ways.length<=1000000):a8 (headsP r ways)=a8 (jm r ways) :=
 j7 (bp _).1 (bp _).1 λx=>by rw [(bp _).2,(bp _).2,heads_mem hf hn hlen]
theorem rl {arity:List Int} {S:List Fct} {r:Rul} (hr:RulR arity r) (ha:∀ i,0<=arity.getD i 0/\arity.getD i 0<=3) (hS:∀ x∈S,FctOk arity x):RulS S r:=by
 have hv:=hr.vars;refine⟨⟨λl hl=>lit_okL (hr.lits l hl) hv.1 hS,λl hl hk=>?_,λl hl t ht=>?_,λx hx=>(hS x hx).nums,hr.body,by omega,λl hl=>?_⟩,safe_Bd hr.safe,hv⟩
 ·obtain⟨_,h2,_⟩:=un (hr.lits l hl);unfold opB inR at h2;rw [if_pos hk] at h2;simp only [Ae,decide_eq_true_eq] at h2;exact h2
 ·exact ((un (hr.lits l hl)).2.2.2.2 t ht).2.2
 ·obtain⟨h1,_,h3,h4,_⟩:=un (hr.lits l hl);by_cases hk:l.kind=1∨l.kind=2
  ·have:=(h3 hk).2
   have:=ha l.pred.toNat
   omega
  ·have:=(h4 hk).2
   omega
theorem args_fn (l:List Trm) (a:List Int) (hok:∀ t∈l,okT a.length t) (hl:l.length<=1000000):Fn 99 [.d (.slice 2 (l.map av)),.d (.slice 1 (a.map aq))] (λr=>r = .d (.slice 1 ((l.map (vA a)).map aq))):=by
 refine fqE Tryz.func99 ?_;intro O w0 E0 β0;have ll:(l.map av).length=l.length:=Aa _;have la:(a.map aq).length=a.length:=Aa _;repeat' (first|(apply x5;exact rfl;exact rfl;exact rfl;exact rfl;exact rfl;exact rfl;exact rfl;exact rfl)|(first|refine zs ?_|fail))
 refine ag (ι:=Nat) (λi=>⟨1,[(0,.d (.slice 2 (l.map av))),(1,.d (.slice 1 (a.map aq))),(5,.row 0),(9,.d (.slice 2 (l.map av))),(10,.d (.int .i64 l.length)),(11,.d (.int .i64 i))],[(0,.row 3 1 (((l.take i).map (vA a)).map aq))]⟩)
  (λi=>i<=l.length) (λi=>l.length-i) 0 (Ak _) (ai id ⟨rfl,rfl,rfl,rfl,by rw [<- ll];rfl,rfl,trivial⟩ ⟨rfl,trivial⟩ rfl rfl rfl rfl rfl rfl) ?_
 intro i g1;by_cases hi:i<l.length
 ·have ho:=hok _ (Aj hi);unfold okT at ho;have ht:l.take (i+1)=l.take i++[l[i]]:=List.take_succ_eq_append_getElem hi;by_cases hv:l[i].var<0
  ·have hva:vA a l[i]=l[i].n:=by unfold vA;rw [if_pos hv]
   repeat' (first|refine zs ?_|(refine zm ?_ ?_<;>intro hg)|(exfalso;omega))
   exact⟨i+1,hi,ai (λ_=>2) ⟨rfl,rfl,rfl,rfl,rfl,rfl,trivial⟩ ⟨by rw [ht,Ar,Ar,G9,hva];rfl,trivial⟩ rfl rfl rfl rfl rfl rfl,by omega⟩
  ·have hlt:l[i].var.toNat<a.length:=by omega
   have hva:vA a l[i]=a[l[i].var.toNat]:=by unfold vA;rw [if_neg hv,A6,Ad hlt];rfl
   repeat' (first|refine zs ?_|(refine zm ?_ ?_<;>intro hg)|(exfalso;omega))
   exact⟨i+1,hi,ai (λ_=>2) ⟨rfl,rfl,rfl,rfl,rfl,rfl,trivial⟩ ⟨by rw [ht,Ar,Ar,G9,hva];rfl,trivial⟩ rfl rfl rfl rfl rfl rfl,by omega⟩
 ·rw [Ai (by omega)];repeat' (first|refine zs ?_|(refine zm ?_ ?_<;>intro hg)|(exfalso;omega))
  refine ak (bh 4 rfl rfl rfl) ?_;repeat' (apply c9)
  exact⟨.inl rfl,_,rfl,rfl,rfl⟩
def ve (a b:Int):Bool:=decide (a=b)
theorem ne_not {a b:Int} {c:Bool} (h:decide (a≠b) = !c):ve a b=c:=by
 unfold ve;cases c<;>simp_all
theorem sameInts_fn (l m:List (Int)):Fn 56 [.d (.slice 1 (l.map aq)),.d (.slice 1 (m.map aq))] (λr=>r = .d (.bool (ea ve l m))):=by
 refine fqE Tryz.func56 ?_;intro O w0 E0 β0;refine cp (t:=0) rfl λhb=>?_
 repeat' (first|refine zs ?_|fail)
 refine bf rfl (λh=>?_) (λh=>?_)
 ·have hne:l.length≠m.length:=by rw [Aa,Aa] at h;omega
  repeat' (first|refine zr ?_|fail)
  exact a7 rfl (se _ _ _ hne).symm
 ·have hlen:l.length=m.length:=by rw [Aa,Aa] at h;omega
  repeat' (first|refine zs ?_|fail)
  refine ag (ι:=Nat) (λi=>⟨0,[(0,.d (.slice 1 (l.map aq))),(1,.d (.slice 1 (m.map aq))),(5,.d (.int .i64 i))],[]⟩)
   (λi=>i<=l.length/\ea ve l m=ea ve (l.drop i) (m.drop i)) (λi=>l.length-i) 0 ⟨Ak _,rfl⟩
   (er id) ?_
  rintro i ⟨h1,h2⟩;repeat' (first|refine zs ?_|fail)
  refine bf rfl (λh=>?_) (λh=>?_)
  ·have hi:i<l.length:=by rw [Aa] at h;omega
   have hm:i<m.length:=by omega
   have hd:=tr ve l m i hi hm;repeat' (first|refine zs ?_|fail)
   refine d7 rfl (λhb=>?_) (λhb=>?_)
   ·have hp:ve l[i] m[i]=false:=by exact ne_not hb
    repeat' (first|refine zr ?_|fail)
    exact a7 rfl (by rw [h2,hd,hp];rfl)
   ·have hp:ve l[i] m[i]=true:=by exact ne_not hb
    repeat' (first|refine zs ?_|fail)
    exact⟨i+1,⟨hi,by rw [h2,hd,hp];rfl⟩,er id,by omega⟩
  ·repeat' (first|refine zr ?_|fail)
   exact a7 rfl (by rw [h2,yj _ _ _ _ (by rw [Aa] at h;omega) (by rw [Aa] at h;omega)])
end
end Go.Proofs.YtapciiffpnociadGreat
