/- Several texts in one: MoF MoG MoH MoI ChA VwG VwH VwI GxArg DagZ VwJ VwK. Condition: none. -/
import Derived.Test.YtapciiffpnociadGreatT26
set_option maxHeartbeats 8000000
open Bool renaming false_and→Dw,true_and→Df
open List renaming drop_eq_getElem_cons→Am,drop_eq_nil_of_le→Ec,filter_cons→B7,getElem_mem→Aj,length_append→Af,length_filter_le→C9,length_map→Aa,map_append→Ar,mem_append_left→Ax,mem_append_right→B1,mem_cons→Bh,mem_singleton→A1,not_mem_nil→B8,pairwise_singleton→Dc
open Nat renaming le_trans→A5,zero_le→Ak
namespace Go.Proofs.YtapciiffpnociadGreat
section
open Go Go.RowKit
theorem uay {l:List Fct} (h:Strict l):a8 l=l:=j7 (bp l).1 h (bp l).2
structure HdOk (p:Prg) (lv:List Int) (n:Nat) (S hs:List Fct) (i:Nat):Prop where
 src:∀ x∈hs,∃ r∈p.rules,lv.getD r.pred.toNat 0=n/\x∈hdW S r
 all:∀ j (hj:j<p.rules.length),j<i->lv.getD (p.rules[j]).pred.toNat 0=n->manyW S p.rules[j]=true/\∀ x∈hdW S p.rules[j],x∈hs
 len:hs.length<=2000*i
attribute [local irreducible] DW DS DL DQ Ev FnOk FnP ef bt DT
theorem uam (p:Prg) (l:List Fct) (ho:MOk p l) :
  Fn 58 [gu p,.d (.slice 2 (l.map ae))]
   (λr=>∃ (m:List Fct) (b:Bool),r = .tup [.d (.slice 2 (m.map ae)),.d (.bool b)]/\((b=true/\RunTo p (fa p) l p.arity.length m)∨(b=false/\m=[]/\¬ ∃ m,RunTo p (fa p) l p.arity.length m))):=by
 refine fqE Tryz.func58 ?_;intro O w0 E0 β0;have hp:=ho.pr;have hlv:=ho.fit;have hll:=ho.len;have la:(p.arity.map aq).length=p.arity.length:=Aa _;have lr:(p.rules.map dj).length=p.rules.length:=Aa _;have hal:=hp.alen;have hrl:=hp.rlen;have w1:=uag p (progE_ok ho.prog);have w2:=sc l (by omega);generalize fa p=lv at *;have llv:(lv.map aq).length=lv.length:=Aa _;repeat' (first|refine zs ?_|refine z21 ?_ (hc:=by apply w1)|refine z21 ?_ (hc:=by apply w2)|fail)
 refine ag (ι:=Nat×List Fct) (λc=>⟨1,[(2,.loc 0 0),(6,.d (.slice 1 (lv.map aq))),(8,.d (.slice 2 (c.2.map ae))),(9,.d (.int .i64 c.1))],
   [(0,.blk 26 [.d (.slice 1 (p.arity.map aq)),.d (.slice 1 (p.names.map oq)),.d (.slice 5 (p.rules.map dj))])]⟩)
  (λc=>c.1<=p.arity.length/\RunTo p lv l c.1 c.2) (λc=>p.arity.length-c.1) (0,a8 l) ⟨Ak _,rfl⟩
  (er id) ?_
 rintro⟨n,m0⟩ ⟨g1,g2⟩;dsimp only at g1 g2 ⊢;obtain⟨s1,s2,s3,s4⟩:=RunTo.ok ho.facts ho.len g2;have hV:=lvV_ok hp hlv n m0;by_cases hn:n<p.arity.length
 ·clear w1 w2;repeat' (first|refine zr ?_|(refine zm ?_ ?_<;>intro hg)|(exfalso;omega))
  refine ag (ι:=Int×List Fct) (λc=>⟨1,[(2,.loc 0 0),(6,.d (.slice 1 (lv.map aq))),(8,.d (.slice 2 (c.2.map ae))),(9,.d (.int .i64 n)),(10,.d (.int .i64 c.1))],
    [(0,.blk 26 [.d (.slice 1 (p.arity.map aq)),.d (.slice 1 (p.names.map oq)),.d (.slice 5 (p.rules.map dj))])]⟩)
   (λc=>InvM (lvV p lv n m0) m0 c.2/\(c.1 = -1∨∃ S1,c.1=(S1.length:Int)/\Strict S1/\(∀ x∈S1,x∈c.2)/\∀ r∈(lvV p lv n m0).rs,manyW S1 r=true/\∀ x∈hdW S1 r,x∈c.2)) (λc=>2*(61-c.2.length)+if c.1<c.2.length then 1 else 0) (-1,m0) ⟨n5 s1 ⟨s3,λ_ _=>Iff.rfl⟩ s2,.inl rfl⟩
   (er id) ?_
  rintro⟨many,S⟩ ⟨q1,q2⟩;dsimp only at q1 q2 ⊢;have lS:(S.map ae).length=S.length:=Aa _;have hS60:=q1.len;repeat' ((fail_if_success (apply eo 10));(first|refine zs ?_|(refine zm ?_ ?_<;>intro hg)|fail))
  ·refine ak (cd (t:=11) 37 2 rfl) ?_;repeat' (first|refine zs ?_|fail)
   refine ag (ι:=Nat×List Fct) (λc=>⟨2,[(2,.loc 0 0),(6,.d (.slice 1 (lv.map aq))),(8,.d (.slice 2 (S.map ae))),(9,.d (.int .i64 n)),(10,.d (.int .i64 S.length)),(11,.row 1),(12,.d (.int .i64 c.1))],
     [(0,.blk 26 [.d (.slice 1 (p.arity.map aq)),.d (.slice 1 (p.names.map oq)),.d (.slice 5 (p.rules.map dj))]),(1,.row 37 2 (c.2.map ae))]⟩)
    (λc=>c.1<=p.rules.length/\HdOk p lv n S c.2 c.1) (λc=>p.rules.length-c.1) (0,[]) ⟨Ak _,⟨λx hx=>by simp at hx,λj _ h=>absurd h (Nat.not_lt_zero j),by simp⟩⟩
    (ai id ⟨rfl,rfl,rfl,rfl,by rw [<- lS];rfl,rfl,rfl,trivial⟩ ⟨rfl,rfl,trivial⟩ rfl rfl rfl rfl rfl rfl) ?_
   rintro⟨i,hs⟩ ⟨r1,r2⟩;dsimp only at r1 r2 ⊢;have lhs:(hs.map ae).length=hs.length:=Aa _;have hsl:=r2.len;by_cases hi:i<p.rules.length
   ·have hr:=hp.rul _ (Aj hi);have hpr:=hr.pred;have hlvl:=hlv.len;have hgd:lv.getD (p.rules[i]).pred.toNat 0=lv[(p.rules[i]).pred.toNat]'(by omega):=by rw [List.getD,List.getElem?_eq_getElem (by omega)];rfl
    have hok:=raw_ok hr hp.ar q1.a.1 q1.strict.nodup;have hSS:=uay q1.strict;have w1:=waysOf_fn S p.rules[i] hS60 (by rw [hSS];exact rl hr hp.ar q1.a.1);rw [hSS] at w1;have w2:=headsOf_fn p.arity p.rules[i] (fm S p.rules[i]) hok;have hhl:(a8 (jm p.rules[i] (fm S p.rules[i]))).length<=2000:=by
     refine A5 (j8 _) ?_;rw [qa];exact A5 (List.length_filterMap_le _ _) hok.many
    have lhd:((a8 (jm p.rules[i] (fm S p.rules[i]))).map ae).length=(a8 (jm p.rules[i] (fm S p.rules[i]))).length:=Aa _;by_cases hlev:lv.getD (p.rules[i]).pred.toNat 0=n
    ·have hrs:p.rules[i]∈(lvV p lv n m0).rs:=List.mem_filter.2 ⟨Aj hi,decide_eq_true hlev⟩;rw [hgd] at hlev;cases hmm:manyW S p.rules[i] with
     | false =>
      rw [hmm] at w1;clear w2;repeat' (first|refine zs ?_|refine z21 ?_ (hc:=by apply w1)|(refine zm ?_ ?_<;>intro hg)|(exfalso;omega))
      refine ak (cr 4 2 rfl) ?_;repeat' (first|refine zr ?_|fail)
      exact⟨.inl rfl,_,rfl,rfl,[],false,rfl,.inr ⟨rfl,rfl,ubl hn g2 (no_many hV q1 hrs hmm)⟩⟩
     | true =>
      rw [hmm] at w1;repeat' (first|refine zs ?_|refine z21 ?_ (hc:=by apply w1)|refine z21 ?_ (hc:=by apply w2)|(refine zm ?_ ?_<;>intro hg)|(exfalso;omega))
      refine⟨(i+1,hs++hdW S p.rules[i]),⟨hi,λx hx=>?_,λj hj hji hl=>?_,?_⟩,ai (λj=>match j with|1=>2|j=>j) ⟨rfl,rfl,rfl,rfl,rfl,rfl,rfl,trivial⟩ ⟨rfl,by dsimp only;rw [Ar];rfl,trivial⟩ rfl rfl rfl rfl rfl rfl,by dsimp only;omega⟩
      ·rcases List.mem_append.1 hx with hx|hx
       ·exact r2.src x hx
       ·exact⟨_,Aj hi,hgd.trans hlev,hx⟩
      ·by_cases he:j=i
       ·subst he;exact⟨hmm,λx hx=>B1 _ hx⟩
       ·obtain⟨a1,a2⟩:=r2.all j hj (by omega) hl;exact⟨a1,λx hx=>Ax _ (a2 x hx)⟩
      ·dsimp only;rw [Af];show hs.length+(a8 (jm p.rules[i] (fm S p.rules[i]))).length<=_;omega
    ·rw [hgd] at hlev;clear w1 w2;repeat' (first|refine zs ?_|(refine zm ?_ ?_<;>intro hg)|(exfalso;omega))
     exact⟨(i+1,hs),⟨hi,r2.src,λj hj hji hl=>by
      by_cases he:j=i
      ·subst he;exact absurd (hgd.symm.trans hl) hlev
      ·exact r2.all j hj (by omega) hl,by dsimp only;omega⟩,er id,by dsimp only;omega⟩
   ·have hil:i=p.rules.length:=by omega
    subst hil;have hHn:=bp (dm hs S);have hHl:(a8 (dm hs S)).length<=hs.length:=A5 (j8 _) (C9 _ _);have w3:=uf hs S (by omega);have w4:=unionOf_fn S (a8 (dm hs S)) (by omega);have lH:((a8 (dm hs S)).map ae).length=(a8 (dm hs S)).length:=Aa _;have hsrc:∀ x∈a8 (dm hs S),∃ r∈(lvV p lv n m0).rs,∃ m',InvM (lvV p lv n m0) m0 m'/\x∈(lvV p lv n m0).hd m' r:=by
     intro x hx;obtain⟨r,a1,a2,a3⟩:=r2.src x (List.mem_filter.1 ((hHn.2 x).1 hx)).1;exact⟨r,List.mem_filter.2 ⟨a1,decide_eq_true a2⟩,S,q1,a3⟩
    repeat' (first|refine zs ?_|(refine zm ?_ ?_<;>intro hg)|(exfalso;omega))
    refine mc (bh 74 rfl rfl rfl) ?_;repeat' (first|refine zs ?_|refine z21 ?_ (hc:=by apply w3)|refine z21 ?_ (hc:=by apply w4)|(refine zm ?_ ?_<;>intro hg)|(exfalso;omega))
    ·refine ak (cr 4 2 rfl) ?_;repeat' (first|refine zr ?_|fail)
     refine⟨.inl rfl,_,rfl,rfl,[],false,rfl,.inr ⟨rfl,rfl,ubl hn g2 (no_room hV q1 hsrc hHn.1.nodup (λx hx hxS=>?_) (by omega))⟩⟩
     have:=(List.mem_filter.1 ((hHn.2 x).1 hx)).2
     rw [hasF_iff.2 hxS] at this;cases this
    ·have hU:=bp (S++a8 (dm hs S));have hUl:=j8 (S++a8 (dm hs S));rw [Af] at hUl;have hinv:=inv_put hV q1 hsrc (by omega);have hle:S.length<=(a8 (S++a8 (dm hs S))).length:=mq q1.strict.nodup λx hx=>(hU.2 x).2 (Ax _ hx)
     have hl60:=hinv.len;refine⟨((S.length:Int),a8 (S++a8 (dm hs S))),⟨hinv,.inr ⟨S,rfl,q1.strict,λx hx=>(hU.2 x).2 (Ax _ hx),λr hr=>?_⟩⟩,er id,?_⟩
     ·obtain⟨hm,hl⟩:=List.mem_filter.1 hr;obtain⟨j,hj,rfl⟩:=List.mem_iff_getElem.1 hm;obtain⟨a1,a2⟩:=r2.all j hj hj (of_decide_eq_true hl);refine⟨a1,λx hx=>(hU.2 x).2 ?_⟩
      by_cases hxS:hasF S x=true
      ·exact Ax _ (hasF_iff.1 hxS)
      ·exact B1 _ ((hHn.2 x).2 (List.mem_filter.2 ⟨a2 x hx,by simpa using hxS⟩))
     ·dsimp only;rw [if_pos (by omega:many<(S.length:Int))];split<;>omega
  ·rcases q2 with q2|⟨S1,e1,e2,e3,e4⟩
   ·exfalso;omega
   ·have he:=same_len e2 q1.strict e3 (by omega);subst he;exact⟨(n+1,S1),⟨hn,m0,g2,s6 q1 (λr hr=>(e4 r hr).1) λr hr=>(e4 r hr).2⟩,er id,by dsimp only;omega⟩
 ·have hnn:n=p.arity.length:=by omega
  subst hnn;repeat' (first|refine zr ?_|(refine zm ?_ ?_<;>intro hg)|(exfalso;omega))
  exact⟨.inl rfl,_,rfl,rfl,m0,true,rfl,.inl ⟨rfl,g2⟩⟩
theorem uaa (p:Prg) (l:List Fct):Fn 57 [gu p,.d (.slice 2 (l.map ae))] (λr=>r = .d (.int .i64 (rg p l))):=by
 refine fqE Tryz.func57 ?_;intro O w0 E0 β0;have w1:=rcheck_fn p;have w3:=checkFacts_fn p l;unfold rg;by_cases h0:dc cz p=0
 ·have w2:=uag p (progE_ok h0);rw [h0] at w1 ⊢;rw [if_neg (by simp)];cases hd:q8 p with
  | true =>
   rw [hd] at w2;rw [if_neg (by simp)];repeat' (first|refine zr ?_|refine z21 ?_ (hc:=by apply w1)|refine z21 ?_ (hc:=by apply w2)|refine z21 ?_ (hc:=by apply w3)|(exfalso;omega))
   exact⟨.inl rfl,_,rfl,rfl,rfl⟩
  | false =>
   rw [hd] at w2;rw [if_pos rfl];repeat' (first|refine zr ?_|refine z21 ?_ (hc:=by apply w1)|refine z21 ?_ (hc:=by apply w2)|(exfalso;omega))
   exact⟨.inl rfl,_,rfl,rfl,rfl⟩
 ·rw [if_pos h0];generalize dc cz p=e at *;clear w3;repeat' (first|refine zr ?_|refine z21 ?_ (hc:=by apply w1)|(refine zm ?_ ?_<;>intro hg)|(exfalso;omega))
  exact⟨.inl rfl,_,rfl,rfl,rfl⟩
theorem uab (p:Prg) (l:List Fct) (e:Int) (m:List Fct) (hm:ModelR p l e m):Fn 17 [gu p,.d (.slice 2 (l.map ae))] (λr=>r = .tup [.d (.slice 2 (m.map ae)),.d (.int .i64 e)]):=by
 refine fqE Tryz.func17 ?_;intro O w0 E0 β0;have w1:=uaa p l;by_cases h0:rg p l=0
 ·rw [h0] at w1;have w2:=uam p l (mOk h0);repeat' (first|refine zs ?_|refine z21 ?_ (hc:=by apply w1)|(exfalso;omega))
  apply yz;exact rfl;exact rfl;exact w2;exact rfl;exact rfl;exact rfl;rintro _ ⟨m',b,rfl,⟨rfl,q1⟩|⟨rfl,rfl,q1⟩⟩
  ·obtain⟨he,hx'⟩:=hm.unique (.ok m' h0 q1);subst he;subst hx';clear w1 w2;repeat' (first|refine zr ?_|(exfalso;omega))
   exact⟨.inl rfl,_,rfl,rfl,rfl⟩
  ·obtain⟨he,hx'⟩:=hm.unique (.much h0 q1);subst he;subst hx';clear w1 w2;repeat' (first|refine zs ?_|(exfalso;omega))
   refine ak (cr 4 2 rfl) ?_;repeat' (first|refine zr ?_|fail)
   exact⟨.inl rfl,_,rfl,rfl,rfl⟩
 ·obtain⟨he,hx'⟩:=hm.unique (.bad h0);subst he;subst hx';generalize rg p l=e at *;repeat' (first|refine zs ?_|refine z21 ?_ (hc:=by apply w1)|(refine zm ?_ ?_<;>intro hg)|(exfalso;omega))
  refine ak (cr 4 2 rfl) ?_;repeat' (first|refine zr ?_|fail)
  exact⟨.inl rfl,_,rfl,rfl,rfl⟩
def i4:Rul:=⟨1,[⟨0,0⟩,⟨1,0⟩],0,[⟨1,0,0,[⟨0,0⟩,⟨1,0⟩]⟩],2⟩
theorem ii:smallP.rules=[i4,ow]:=rfl
theorem uaz:q8 smallP=true:=by kernel_rfl
theorem vy:fa smallP=[0,0]:=by kernel_rfl
theorem uba:rg smallP fe=0:=by
 unfold rg;rw [if_neg (by rw [show dc cz smallP=0 by kernel_rfl];simp),if_neg (by rw [uaz];simp)];kernel_rfl
theorem ue {S:List Fct} {r:Rul} {o:List (List Int)} (h:ed S r.body (jz r.body) (e0 r.vars.toNat)=o) (hs:SortW o) (hl:o.length<=2000):manyW S r=true/\fm S r=o:=by
 have hw:rj S r.vars.toNat r.body=o:=(vo hs (by rw [h])).symm;have hm:manyW S r=true:=by unfold manyW;rw [hw];exact decide_eq_true hl
 exact⟨hm,by unfold fm;rw [if_pos hm,hw]⟩
theorem ubb {a b:List Int} (h:du a b<=0):SortW [a,b]:=List.pairwise_cons.2 ⟨λx hx=>by rw [A1] at hx;subst hx;exact h,Dc _ _⟩
def midF:List Fct:=[⟨0,[1,2]⟩,⟨0,[2,3]⟩,⟨1,[1,2]⟩,⟨1,[2,3]⟩]
theorem ucg:manyW fe i4=true/\fm fe i4=[[1,2],[2,3]]:=ue (by kernel_rfl) (ubb (by decide)) (by simp)
theorem ucw:manyW fullF i4=true/\fm fullF i4=[[1,2],[2,3]]:=ue (by kernel_rfl) (ubb (by decide)) (by simp)
theorem udj:manyW midF ow=true/\fm midF ow=[[1,2,3]]:=ue (by kernel_rfl) (Dc _ _) (by simp)
theorem ucx:manyW fullF ow=true/\fm fullF ow=[[1,2,3]]:=ue (by kernel_rfl) (Dc _ _) (by simp)
theorem ubc:∀ x∈fullF,FctOk smallP.arity x:=by
 intro x hx;have:bm (e8 smallP.arity) fullF=0:=by kernel_rfl
 exact factE_ok (im this x hx)
theorem uac:Strict fullF:=by
 have:=(bp fullF).1
 rw [show a8 fullF=fullF by kernel_rfl] at this;exact this
theorem uah:ModelR smallP fe 0 fullF:=by
 have ho:=mOk uba;have hV:=lvV_ok ho.pr ho.fit 0 fe;have hset0:a8 fe=fe:=by kernel_rfl
 have hst0:Strict fe:=by
  have:=(bp fe).1
  rw [hset0] at this;exact this
 have i0:InvM (lvV smallP (fa smallP) 0 fe) fe fe:=n5 hst0 ⟨ho.facts,λ_ _=>Iff.rfl⟩ (by decide);have hQ:i4∈(lvV smallP (fa smallP) 0 fe).rs:=List.mem_filter.2 ⟨by rw [ii];simp,by rw [vy];decide⟩;have hR:ow∈(lvV smallP (fa smallP) 0 fe).rs:=List.mem_filter.2 ⟨by rw [ii];simp,by rw [vy];decide⟩;have hq:hdW fe i4=[⟨1,[1,2]⟩,⟨1,[2,3]⟩]:=by unfold hdW;rw [ucg.2];kernel_rfl
 have hr:hdW midF ow=[⟨1,[1,3]⟩]:=by unfold hdW;rw [udj.2];kernel_rfl
 have hqf:hdW fullF i4=[⟨1,[1,2]⟩,⟨1,[2,3]⟩]:=by unfold hdW;rw [ucw.2];kernel_rfl
 have hrf:hdW fullF ow=[⟨1,[1,3]⟩]:=by unfold hdW;rw [ucx.2];kernel_rfl
 have i1:=inv_put hV i0 (H:=[⟨1,[1,2]⟩,⟨1,[2,3]⟩]) (λx hx=>⟨i4,hQ,fe,i0,by show x∈hdW fe i4;rw [hq];exact hx⟩) (by decide);rw [show a8 (fe++[⟨1,[1,2]⟩,⟨1,[2,3]⟩])=midF by kernel_rfl] at i1;have i2:=inv_put hV i1 (H:=[⟨1,[1,3]⟩]) (λx hx=>⟨ow,hR,midF,i1,by show x∈hdW midF ow;rw [hr];exact hx⟩) (by decide);rw [show a8 (midF++[⟨1,[1,3]⟩])=fullF by kernel_rfl] at i2;have hfit0:Fit (lvV smallP (fa smallP) 0 fe) fe fullF:=by
  have key:∀ r∈(lvV smallP (fa smallP) 0 fe).rs,manyW fullF r=true/\∀ x∈hdW fullF r,x∈fullF:=by
   intro r hr';have hm:=(List.mem_filter.1 hr').1;rw [ii] at hm;simp only [Bh,B8,or_false] at hm;rcases hm with rfl|rfl
   ·refine⟨ucw.1,λx hx=>?_⟩
    rw [hqf] at hx;simp only [Bh,B8,or_false] at hx;rcases hx with rfl|rfl<;>simp [fullF]
   ·refine⟨ucx.1,λx hx=>?_⟩
    rw [hrf] at hx;simp only [Bh,B8,or_false] at hx;subst hx;simp [fullF]
  exact s6 i2 (λr hr=>(key r hr).1) λr hr=>(key r hr).2
 have hfit1:Fit (lvV smallP (fa smallP) 1 fullF) fullF fullF:=by
  have hno:∀ r∈(lvV smallP (fa smallP) 1 fullF).rs,False:=by
   intro r hr';obtain⟨hm,hl⟩:=List.mem_filter.1 hr';rw [ii] at hm;simp only [Bh,B8,or_false] at hm;rw [vy] at hl;rcases hm with rfl|rfl<;>exact absurd (of_decide_eq_true hl) (by decide)
  exact s6 (n5 uac ⟨ubc,λ_ _=>Iff.rfl⟩ (by decide)) (λr hr=>(hno r hr).elim) λr hr=>(hno r hr).elim
 refine .ok fullF uba ⟨fullF,⟨fe,?_,?_⟩,?_⟩
 ·show fe=a8 fe;exact hset0.symm
 ·exact hfit0
 ·exact hfit1

abbrev udk (came went:List Fct):SV:=.agg [.d (.slice 2 (came.map ae)),.d (.slice 2 (went.map ae))]
theorem uai (m n:List Fct) (hm:m.length<=4398046511104) (hn:n.length<=4398046511104) (ha:∀ x∈m,x.args.length<=17592186044416) (hb:∀ x∈n,x.args.length<=17592186044416) :
  Fn 64 [.d (.slice 2 (m.map ae)),.d (.slice 2 (n.map ae))] (λr=>r=udk (a8 (dm n m)) (a8 (dm m n))):=by
 refine fqE Tryz.func64 ?_;intro O w0 E0 β0;have w1:=minus_fn n m hn hm hb ha;have w2:=minus_fn m n hm hn ha hb;rw [minus_same] at w1 w2;repeat' (first|refine zr ?_|refine z21 ?_ (hc:=by apply w1)|refine z21 ?_ (hc:=by apply w2)|fail)
 exact⟨.inl rfl,_,rfl,rfl,rfl⟩
theorem RpGood.put {r r2:Rpl} {u:Upd} (h:RpGood r) (hc:db u=0) (hn:hasU r.both u.id=false) (hl:r.has.length+r.waits.length<200) (h2:RplOk (u::r.both) r2):RpGood r2:=by
 have ht:=(ToldOk.self h.ok).step hn h2;have hlen:=ht.len;have hb:r2.both.length=r2.has.length+r2.waits.length:=Af;have hb1:r.both.length=r.has.length+r.waits.length:=Af;rw [List.length_cons] at hlen;refine⟨h2.self,by omega,λv hv=>?_⟩
 rcases List.mem_cons.1 ((h2.all v).2 (List.mem_append.1 hv)) with rfl|hv
 ·exact hc
 ·exact h.each v hv
theorem n3 (p:Prg) (l:List Fct):(mdl p l).2.length<=60/\∀ x∈(mdl p l).2,x.args.length<=3:=by
 have h:=mdl_is p l;obtain⟨_,h1,h2⟩:=h.strict;refine⟨h1,λx hx=>?_⟩
 by_cases he:(mdl p l).1=0
 ·rw [he] at h;exact ucb (mOk h.ok0).pr (h2 x hx)
 ·rw [mdl_none he] at hx;cases hx
theorem uan (p:Prg) (r:Rpl) (m:List Fct) (u:Upd) (hg:RpGood r) (hm:m.length<=60) (ha:∀ x∈m,x.args.length<=3):FnOk false Tryz.prog tab b9 79 [.loc 0 0,gc u] 1 3 (vwH p m r)
  (λk res H=>k=3/\res = .tup [udk (stepV p r m u).2.2.1.1 (stepV p r m u).2.2.1.2,.d (.int .i64 (stepV p r m u).2.2.2)]/\H=vwH p (stepV p r m u).2.1 (stepV p r m u).1):=by
 refine frE Tryz.func79 ?_;intro O w0 E0 β0;have hgl:=hg.len;have w1:=checkU_fn u;have hd:stepV p r m u=if db u≠0 then (r,m,([],[]),db u)
  else if hasU r.both u.id=true then (r,m,([],[]),0)
  else if 200<=r.both.length then (r,m,([],[]),2)
  else if (mdl p (cq p (putR r u))).1≠0 then (putR r u,(mdl p (cq p (putR r u))).2,([],[]),(mdl p (cq p (putR r u))).1)
  else (putR r u,(mdl p (cq p (putR r u))).2,(a8 (dm (mdl p (cq p (putR r u))).2 m),a8 (dm m (mdl p (cq p (putR r u))).2)),0):=rfl
 generalize stepV p r m u=s at *;by_cases hc:db u=0
 ·rw [if_neg (by simpa using hc)] at hd;rw [hc] at w1;have w2:FnOk false Tryz.prog tab b9 140 [.row 0,o8 u.id] 1 1 [(0,.row 82 5 (r.has.map aa))] (λ_ res H2=>res = .d (.bool (hasU r.has u.id))/\H2=[(0,.row 82 5 (r.has.map aa))]) :=
   FnP.shownR (zb r.has u.id (by omega) hg.ok.sh) rfl rfl (by rintro _ rfl;rfl)
  have w3:FnOk false Tryz.prog tab b9 140 [.row 0,o8 u.id] 1 1 [(0,.row 82 5 (r.waits.map aa))] (λ_ res H2=>res = .d (.bool (hasU r.waits u.id))/\H2=[(0,.row 82 5 (r.waits.map aa))]) :=
   FnP.shownR (zb r.waits u.id (by omega) hg.ok.sw) rfl rfl (by rintro _ rfl;rfl)
  have hty:=hasU_app r.has r.waits u.id;repeat' (first|refine zs ?_|refine z21 ?_ (hc:=by apply w1)|(exfalso;omega))
  refine s8 (λj=>match j with|0=>1|j=>j) w2 (by rintro _ rfl;exact⟨rfl,rfl⟩) ⟨_,rfl⟩ rfl rfl rfl rfl ⟨rfl,trivial⟩ rfl rfl rfl rfl rfl rfl rfl rfl rfl ?_;rintro _ rfl;clear w1 w2;cases hb1:hasU r.has u.id with
  | true =>
   rw [if_pos (by rw [hb1] at hty;exact hty)] at hd;subst hd;repeat' (first|refine zs ?_|(exfalso;omega))
   refine ak (bi 4 0 2 rfl rfl rfl) ?_;refine ak (bi 4 1 2 rfl rfl rfl) ?_;repeat' (first|refine zr ?_|fail)
   exact⟨.inl rfl,_,rfl,kp id 3 (.tup [udk [] [],.d (.int .i64 0)]) (vwH p m r) ⟨rfl,rfl,rfl⟩⟩
  | false =>
   repeat' refine z5 ?_
   all_goals try (exfalso;omega)
   refine s8 (λj=>match j with|0=>2|j=>j) w3 (by rintro _ rfl;exact⟨rfl,rfl⟩) ⟨_,rfl⟩ rfl rfl rfl rfl ⟨rfl,trivial⟩ rfl rfl rfl rfl rfl rfl rfl rfl rfl ?_;rintro _ rfl;clear w3;cases hb2:hasU r.waits u.id with
   | true =>
    rw [if_pos (by rw [hb1,hb2] at hty;exact hty)] at hd;subst hd;repeat' (first|refine zs ?_|(exfalso;omega))
    refine ak (bi 4 0 2 rfl rfl rfl) ?_;refine ak (bi 4 1 2 rfl rfl rfl) ?_;repeat' (first|refine zr ?_|fail)
    exact⟨.inl rfl,_,rfl,kp id 3 (.tup [udk [] [],.d (.int .i64 0)]) (vwH p m r) ⟨rfl,rfl,rfl⟩⟩
   | false =>
    have hno:hasU r.both u.id=false:=by rw [hb1,hb2] at hty;exact hty
    rw [if_neg (by rw [hno];simp)] at hd;have wp:=putV_fn p m r u hg.ok (by omega) (by omega) (qh hc) (λv hv=>qh (hg.each v (Ax _ hv))) (λv hv=>qh (hg.each v (B1 _ hv)));repeat' ((fail_if_success (apply bk 6));(first|refine zs ?_|fail))
    all_goals try (exfalso;omega)
    refine j6 4 (by kernel_rfl) (by kernel_rfl) (by kernel_rfl) rfl rfl rfl ?_;repeat' ((fail_if_success (apply bk 6));(first|refine zs ?_|fail))
    refine bg id wp rfl rfl rfl rfl ⟨rfl,rfl,rfl,trivial⟩ rfl rfl rfl rfl rfl rfl ?_ ?_
    ·rintro k2 res H2 ⟨rfl,⟨_,rfl,rfl⟩|⟨_,_,_,rfl,rfl⟩|⟨_,_,_,r2,_,rfl,rfl⟩⟩<;>exact⟨rfl,rfl⟩
    clear wp;rintro k2 res H2 ⟨rfl,⟨hor,rfl,rfl⟩|⟨_,_,hfull,rfl,rfl⟩|⟨_,_,hroom,r2,hr2,rfl,rfl⟩⟩
    ·exfalso;rw [hb1,hb2] at hor;simp at hor
    ·rw [if_pos (by rw [Af];exact hfull)] at hd;subst hd;change DS _ _ _ _ _ _ _ _;repeat' (first|refine zs ?_|(exfalso;omega))
     refine ak (bi 4 0 2 rfl rfl rfl) ?_;refine ak (bi 4 1 2 rfl rfl rfl) ?_;repeat' (first|refine zr ?_|fail)
     exact⟨.inl rfl,_,rfl,kp (λj=>match j with|1=>6|2=>7|j=>j) 3 (.tup [udk [] [],.d (.int .i64 2)]) (vwH p m r) ⟨rfl,rfl,rfl⟩⟩
    ·rw [if_neg (by rw [Af];omega),putR_is hr2] at hd;have hg2:=hg.put hc hno hroom hr2;change DS _ _ _ _ _ _ _ _;have wl:=ucd p m r2 hg2;have hsm:=n3 p (cq p r2);generalize mdl p (cq p r2)=x at *;obtain⟨e,n⟩:=x;dsimp only at hd wl hsm;repeat' (first|refine zs ?_|(exfalso;omega))
     refine bg (λj=>match j with|1=>6|2=>7|j=>j) wl rfl rfl rfl rfl ⟨rfl,rfl,rfl,trivial⟩ rfl rfl rfl rfl rfl rfl ?_ ?_
     ·rintro k2 res H2 ⟨rfl,rfl,rfl⟩;exact⟨rfl,rfl⟩
     rintro k2 res H2 ⟨rfl,rfl,rfl⟩;change DS _ _ _ _ _ _ _ _;clear wl;by_cases he:e=0
     ·subst he;rw [if_neg (by simp)] at hd;subst hd;have wb:=uai m n (by omega) (by have:=hsm.1;omega) (λx hx=>by have:=ha x hx;omega) (λx hx=>by have:=hsm.2 x hx;omega);repeat' (first|refine zr ?_|refine z21 ?_ (hc:=by apply wb)|(exfalso;omega))
      exact⟨.inl rfl,_,rfl,kp (λj=>match j with|1=>9|2=>10|j=>j) 3 (.tup [udk (a8 (dm n m)) (a8 (dm m n)),.d (.int .i64 0)]) (vwH p n r2) ⟨rfl,rfl,rfl⟩⟩
     ·rw [if_pos he] at hd;subst hd;repeat' (first|refine zs ?_|(refine zm ?_ ?_<;>intro hg)|(exfalso;omega))
      refine ak (bi 4 0 2 rfl rfl rfl) ?_;refine ak (bi 4 1 2 rfl rfl rfl) ?_;repeat' (first|refine zr ?_|fail)
      exact⟨.inl rfl,_,rfl,kp (λj=>match j with|1=>9|2=>10|j=>j) 3 (.tup [udk [] [],.d (.int .i64 e)]) (vwH p n r2) ⟨rfl,rfl,rfl⟩⟩
 ·rw [if_pos hc] at hd;subst hd;repeat' (first|refine zs ?_|refine z21 ?_ (hc:=by apply w1)|(refine zm ?_ ?_<;>intro hg)|(exfalso;omega))
  refine ak (bi 4 0 2 rfl rfl rfl) ?_;refine ak (bi 4 1 2 rfl rfl rfl) ?_;repeat' (first|refine zr ?_|fail)
  exact⟨.inl rfl,_,rfl,kp id 3 (.tup [udk [] [],.d (.int .i64 (db u))]) (vwH p m r) ⟨rfl,rfl,rfl⟩⟩
abbrev xz (c:Chg):List D:=[.slice 2 (c.1.map ae),.slice 2 (c.2.map ae)]
abbrev udl (m:List Fct):Prop:=m.length<=60/\∀ x∈m,x.args.length<=3
theorem uao {p:Prg} {r:Rpl} {m:List Fct} {u:Upd} (hg:RpGood r) (hm:udl m):RpGood (stepV p r m u).1/\udl (stepV p r m u).2.1:=by
 unfold stepV;by_cases h1:db u=0
 ·rw [if_neg (by simpa using h1)];by_cases h2:hasU r.both u.id=true
  ·rw [if_pos h2];exact⟨hg,hm⟩
  ·rw [if_neg h2];have hno:hasU r.both u.id=false:=by simpa using h2
   by_cases h3:200<=r.both.length
   ·rw [if_pos h3];exact⟨hg,hm⟩
   ·rw [if_neg h3];obtain⟨_,r2,hr2⟩:=hg.ok.add hno;have hb:r.both.length=r.has.length+r.waits.length:=Af;have hgp:RpGood (putR r u):=by
     rw [putR_is hr2];exact hg.put h1 hno (by omega) hr2
    split
    ·exact⟨hgp,n3 _ _⟩
    ·exact⟨hgp,n3 _ _⟩
 ·rw [if_pos h1];exact⟨hg,hm⟩
theorem uaj (p:Prg) (r:Rpl) (l:List Upd) (h1:r.has.length<=4398046511104) (h2:r.waits.length<=4398046511104):Fn 32 [gu p,jf r,.d (.slice 5 (l.map aa))]
  (λres=>res = .tup [jf (delivV p r l).1,.d (.slice 2 ((delivV p r l).2.1.map xz)),.d (.int .i64 (delivV p r l).2.2)]):=by
 refine fqE Tryz.func32 ?_;intro O w0 E0 β0;have wo:=ucf p r h1 h2;have hd:delivV p r l=if (openV p r).2≠0 then (rplO,[],(openV p r).2)
  else if 200<l.length then (rplO,[],2)
  else if (runV p l r (openV p r).1 []).2.2.2≠0 then (rplO,[],(runV p l r (openV p r).1 []).2.2.2)
  else ((runV p l r (openV p r).1 []).1,(runV p l r (openV p r).1 []).2.2.1,0):=rfl
 have ho:openV p r=if dc cz p≠0 then ([],dc cz p) else if dp r≠0 then ([],dp r) else ((mdl p (cq p r)).2,(mdl p (cq p r)).1):=rfl
 generalize delivV p r l=v at *;have ll:(l.map aa).length=l.length:=Aa _;repeat' (first|refine zs ?_|fail)
 refine bg id wo rfl rfl rfl rfl trivial rfl rfl rfl rfl rfl rfl ?_ ?_
 ·rintro k2 res H2 (⟨_,_,rfl,rfl,rfl⟩|⟨_,rfl,rfl,rfl⟩)<;>exact⟨rfl,rfl⟩
 rintro k2 res H2 (⟨hp,hr,rfl,rfl,rfl⟩|⟨hpr,rfl,rfl,rfl⟩)
 ·rw [if_neg (by simpa using hp),if_neg (by simpa using hr)] at ho;have hsm:=n3 p (cq p r);generalize mdl p (cq p r)=x at *;obtain⟨xe,xs⟩:=x;rw [ho] at hd;dsimp only at hd hsm;clear wo;change DS _ _ _ _ _ _ _ _;by_cases he:xe=0
  ·subst he;rw [if_neg (by simp)] at hd;by_cases hl:200<l.length
   ·rw [if_pos hl] at hd;subst hd;repeat' (first|refine zs ?_|(refine zm ?_ ?_<;>intro hg)|(exfalso;omega))
    refine ag (ι:=Unit) (λ_=>⟨1,[(2,.d (.slice 5 (l.map aa))),(6,.loc 0 0),(10,.d (.int .i64 2)),(11,.nils),(12,.d (.int .i64 0))],[(0,.blk 72 [.nils,.nils])]⟩) (λ_=>True) (λ_=>0) () trivial (er (λj=>match j with|0=>2|j=>j)) ?_;intro _ _;repeat' (first|refine zs ?_|(refine zm ?_ ?_<;>intro hg)|(exfalso;omega))
    all_goals try (exfalso;first|(exact absurd (by assumption) (show (2:Int)≠0 by decide))|(revert (show (2:Int)≠0 by decide);simp_all;done))
    all_goals
     refine ak (bi 0 0 5 rfl rfl rfl) ?_;refine ak (bi 0 1 5 rfl rfl rfl) ?_;refine ak (cr 7 2 rfl) ?_;repeat' (first|refine zr ?_|fail)
     exact⟨.inl rfl,_,rfl,rfl,rfl⟩
   ·rw [if_neg hl] at hd;repeat' (first|refine zs ?_|(refine zm ?_ ?_<;>intro hg)|(exfalso;omega))
    refine ak (cd (t:=11) 49 2 rfl) ?_;generalize hR:runV p l r xs []=R at hd;refine ag (ι:=Nat×Rpl×List Fct×List Chg×Int) (λx=>⟨5,[(2,.d (.slice 5 (l.map aa))),(6,.loc 4 0),(9,.loc 0 0),(10,.d (.int .i64 x.2.2.2.2)),(11,.row 3),(12,.d (.int .i64 x.1))],
      [(0,vwB p x.2.2.1),(1,.row 82 5 (x.2.1.has.map aa)),(2,.row 82 5 (x.2.1.waits.map aa)),(3,.row 49 2 (x.2.2.2.1.map xz)),(4,.blk 72 [.nils,.nils])]⟩)
     (λx=>x.1<=l.length/\RpGood x.2.1/\udl x.2.2.1/\x.2.2.2.1.length=x.1/\((x.2.2.2.2=0/\R=runV p (l.drop x.1) x.2.1 x.2.2.1 x.2.2.2.1)∨(x.2.2.2.2≠0/\R=(x.2.1,x.2.2.1,x.2.2.2.1,x.2.2.2.2)))) (λx=>l.length-x.1)
     (0,r,xs,[],0) ⟨Ak _,RpGood.of hr,hsm,rfl,.inl ⟨rfl,hR.symm⟩⟩ (er (λj=>match j with|0=>3|1=>4|2=>5|3=>6|4=>2|j=>j)) ?_
    rintro⟨i,r1,m1,acc,e⟩ ⟨g1,g2,g3,g4,g5⟩;dsimp only at g1 g2 g3 g4 g5 ⊢;have la:(acc.map xz).length=acc.length:=Aa _;by_cases he:e=0
    ·subst he;have g5:R=runV p (l.drop i) r1 m1 acc:=by
      rcases g5 with ⟨_,h⟩|⟨h,_⟩
      ·exact h
      ·exact absurd rfl h
     by_cases hi:i<l.length
     ·have wd:=uan p r1 m1 l[i] g2 g3.1 g3.2;obtain⟨q1,q2⟩:=uao (p:=p) (u:=l[i]) g2 g3;rw [Am hi,runV] at g5;generalize stepV p r1 m1 l[i]=t at *;repeat' (first|refine zs ?_|(refine zm ?_ ?_<;>intro hg)|(exfalso;omega))
      refine bg id wd rfl rfl rfl rfl ⟨rfl,rfl,rfl,trivial⟩ rfl rfl rfl rfl rfl rfl ?_ ?_
      ·rintro k2 res H2 ⟨rfl,rfl,rfl⟩;exact⟨rfl,rfl⟩
      rintro k2 res H2 ⟨rfl,rfl,rfl⟩;change DS _ _ _ _ _ _ _ _;clear wd;repeat' (first|refine zs ?_|(exfalso;omega))
      refine⟨(i+1,t.1,t.2.1,acc++[t.2.2.1],t.2.2.2),⟨hi,q1,q2,by dsimp only;rw [Af,g4];rfl,?_⟩,ai (λj=>match j with|1=>6|2=>7|3=>9|j=>j) ⟨rfl,rfl,rfl,rfl,rfl,rfl,trivial⟩ ⟨rfl,rfl,rfl,by rw [Ar];rfl,rfl,trivial⟩ rfl rfl rfl rfl rfl rfl,by show l.length-(i+1)<l.length-i;omega⟩
      dsimp only;by_cases ht:t.2.2.2=0
      ·rw [if_neg (by simpa using ht)] at g5;exact .inl ⟨ht,g5⟩
      ·rw [if_pos ht] at g5;exact .inr ⟨ht,g5⟩
     ·have hdr:l.drop i=[]:=Ec (by omega);rw [hdr,runV] at g5;subst g5;rw [if_neg (by simp)] at hd;subst hd;repeat' (first|refine zs ?_|(refine zm ?_ ?_<;>intro hg)|(exfalso;omega))
      refine ak (pq 4 0 1 rfl rfl rfl rfl rfl) ?_;refine ak (pq 4 1 2 rfl rfl rfl rfl rfl) ?_;refine ak (bh 7 rfl rfl rfl) ?_;repeat' (apply c9)
      exact⟨.inl rfl,_,rfl,rfl,rfl⟩
    ·have g5:R=(r1,m1,acc,e):=by
      rcases g5 with ⟨h,_⟩|⟨_,h⟩
      ·exact absurd h he
      ·exact h
     subst g5;rw [if_pos he] at hd;subst hd;repeat' (first|refine zs ?_|(refine zm ?_ ?_<;>intro hg)|(exfalso;omega))
     all_goals
      refine ak (bi 4 0 5 rfl rfl rfl) ?_;refine ak (bi 4 1 5 rfl rfl rfl) ?_;refine ak (cr 7 2 rfl) ?_;repeat' (first|refine zr ?_|fail)
      exact⟨.inl rfl,_,rfl,rfl,rfl⟩
  ·rw [if_pos he] at hd;subst hd;repeat' (first|refine zs ?_|(refine zm ?_ ?_<;>intro hg)|(exfalso;omega))
   refine ag (ι:=Unit) (λ_=>⟨1,[(2,.d (.slice 5 (l.map aa))),(6,.loc 0 0),(10,.d (.int .i64 xe)),(11,.nils),(12,.d (.int .i64 0))],[(0,.blk 72 [.nils,.nils])]⟩) (λ_=>True) (λ_=>0) () trivial (er (λj=>match j with|0=>2|j=>j)) ?_;intro _ _;repeat' (first|refine zs ?_|(refine zm ?_ ?_<;>intro hg)|(exfalso;omega))
   all_goals try (exfalso;first|(exact absurd (by assumption) he)|(revert he;simp_all;done))
   all_goals
    refine ak (bi 0 0 5 rfl rfl rfl) ?_;refine ak (bi 0 1 5 rfl rfl rfl) ?_;refine ak (cr 7 2 rfl) ?_;repeat' (first|refine zr ?_|fail)
    exact⟨.inl rfl,_,rfl,rfl,rfl⟩
 ·clear wo;change DS _ _ _ _ _ _ _ _;have hx:(openV p r).2=(if dc cz p≠0 then dc cz p else dp r)/\(openV p r).2≠0:=by
   rw [ho];by_cases hp:dc cz p=0
   ·have hr:dp r≠0:=λh=>hpr ⟨hp,h⟩
    rw [if_neg (by simpa using hp),if_pos hr,if_neg (by simpa using hp)];exact⟨rfl,hr⟩
   ·rw [if_pos hp,if_pos hp];exact⟨rfl,hp⟩
  obtain⟨he,h0⟩:=hx;rw [if_pos h0] at hd;subst hd;rw [<- he];generalize (openV p r).2=e at *;clear ho hpr;repeat' (first|refine zs ?_|(refine zm ?_ ?_<;>intro hg)|(exfalso;omega))
  refine ag (ι:=Unit) (λ_=>⟨1,[(2,.d (.slice 5 (l.map aa))),(6,.loc 0 0),(10,.d (.int .i64 e)),(11,.nils),(12,.d (.int .i64 0))],[(0,.blk 72 [.nils,.nils])]⟩) (λ_=>True) (λ_=>0) () trivial (er (λj=>match j with|0=>2|j=>j)) ?_;intro _ _;repeat' (first|refine zs ?_|(refine zm ?_ ?_<;>intro hg)|(exfalso;omega))
  all_goals try (exfalso;first|(exact absurd (by assumption) h0)|(revert h0;simp_all;done))
  all_goals
   refine ak (bi 0 0 5 rfl rfl rfl) ?_;refine ak (bi 0 1 5 rfl rfl rfl) ?_;refine ak (cr 7 2 rfl) ?_;repeat' (first|refine zr ?_|fail)
   exact⟨.inl rfl,_,rfl,rfl,rfl⟩
theorem ubd (p:Prg) (r:Rpl) (hg:RpGood r):Fn 82 [gu p,jf r] (λres=>res = .d (.slice 2 ((cq p r).map ae))):=by
 refine fqE Tryz.func82 ?_;intro O w0 E0 β0;obtain⟨b1,b2,b3⟩:=hg.bounds;have hl:=hg.len;have ws:=factsOf_fn r (by omega) (by omega);have hS:a8 ((keptU r.has).flatMap Upd.says)=saidF r:=rfl;rw [hS] at ws;have hq:cq p r=(saidF r).filter λf=>decide (e8 p.arity f=0):=rfl
 generalize cq p r=q at *;generalize saidF r=S at *;have lS:(S.map ae).length=S.length:=Aa _;repeat' (first|refine zs ?_|refine z21 ?_ (hc:=by apply ws)|fail)
 refine ak (cd (t:=6) 37 2 rfl) ?_;refine ag (ι:=Nat) (λi=>⟨2,[(2,.loc 0 0),(5,.d (.slice 2 (S.map ae))),(6,.row 1),(7,.d (.int .i64 i))],
   [(0,.blk 26 [.d (.slice 1 (p.arity.map aq)),.d (.slice 1 (p.names.map oq)),.d (.slice 5 (p.rules.map dj))]),(1,.row 37 2 (((S.take i).filter λf=>decide (e8 p.arity f=0)).map ae))]⟩)
  (λi=>i<=S.length) (λi=>S.length-i) 0 (Ak _) (er (λj=>match j with|1=>2|j=>j)) ?_
 intro i gi;by_cases hi:i<S.length
 ·have wr:=checkFact_fn p S[i];have lo:((S.take i).filter λf=>decide (e8 p.arity f=0)).length<=i:=A5 (C9 _ _) (by rw [List.length_take];omega);have hst:((S.take (i+1)).filter λf=>decide (e8 p.arity f=0))=((S.take i).filter λf=>decide (e8 p.arity f=0))++([S[i]].filter λf=>decide (e8 p.arity f=0)):=by rw [List.take_succ_eq_append_getElem hi,List.filter_append]
  by_cases he:e8 p.arity S[i]=0
  ·rw [he] at wr;have hf:([S[i]].filter λf=>decide (e8 p.arity f=0))=[S[i]]:=by rw [B7,if_pos (by simpa using he)];rfl
   rw [hf] at hst;repeat' (first|refine zs ?_|refine z22 ?_ (hc:=by apply wr)|(refine zm ?_ ?_<;>intro hg)|(exfalso;omega))
   exact⟨i+1,hi,ai (λj=>match j with|1=>_|j=>j) ⟨rfl,rfl,rfl,rfl,trivial⟩ ⟨rfl,by rw [hst,Ar];rfl,trivial⟩ rfl rfl rfl rfl rfl rfl,by omega⟩
  ·have hf:([S[i]].filter λf=>decide (e8 p.arity f=0))=[]:=by rw [B7,if_neg (by simpa using he)];rfl
   rw [hf,List.append_nil] at hst;repeat' (first|refine zs ?_|refine z22 ?_ (hc:=by apply wr)|(refine zm ?_ ?_<;>intro hg)|(exfalso;omega))
   exact⟨i+1,hi,ai id ⟨rfl,rfl,rfl,rfl,trivial⟩ ⟨rfl,by rw [hst];rfl,trivial⟩ rfl rfl rfl rfl rfl rfl,by omega⟩
 ·rw [List.take_of_length_le (by omega),<- hq];repeat' (first|refine zs ?_|(refine zm ?_ ?_<;>intro hg)|(exfalso;omega))
  refine ak (bh 4 rfl rfl rfl) ?_;repeat' (apply c9)
  exact⟨.inl rfl,_,rfl,rfl,rfl⟩
theorem uch (p:Prg) (r:Rpl) (h1:r.has.length<=4398046511104) (h2:r.waits.length<=4398046511104):Fn 33 [gu p,jf r] (λres=>res = .tup [.d (.slice 2 ((openV p r).1.map ae)),.d (.int .i64 (openV p r).2)]):=by
 refine fqE Tryz.func33 ?_;intro O w0 E0 β0;have w1:=rcheck_fn p;have w2:=rcheckR_fn r h1 h2;have hd:openV p r=if dc cz p≠0 then ([],dc cz p) else if dp r≠0 then ([],dp r) else ((mdl p (cq p r)).2,(mdl p (cq p r)).1):=rfl
 rw [hd];by_cases hp:dc cz p=0
 ·rw [if_neg (by simpa using hp)];rw [hp] at w1;by_cases hr:dp r=0
  ·rw [if_neg (by simpa using hr)];rw [hr] at w2;have w3:=ubd p r (RpGood.of hr);have w4:=uab p (cq p r) _ _ (mdl_is p (cq p r));generalize mdl p (cq p r)=x at *;generalize cq p r=q at *;repeat' (first|refine zr ?_|refine z21 ?_ (hc:=by apply w1)|refine z21 ?_ (hc:=by apply w2)|refine z22 ?_ (hc:=by apply w3)|refine z22 ?_ (hc:=by apply w4)|(exfalso;omega))
   exact⟨.inl rfl,_,rfl,rfl,rfl⟩
  ·rw [if_pos hr];repeat' (first|refine zs ?_|refine z21 ?_ (hc:=by apply w1)|refine z21 ?_ (hc:=by apply w2)|(refine zm ?_ ?_<;>intro hg)|(exfalso;omega))
   refine ak (cr 4 2 rfl) ?_;repeat' (first|refine zr ?_|fail)
   exact⟨.inl rfl,_,rfl,rfl,rfl⟩
 ·rw [if_pos hp];repeat' (first|refine zs ?_|refine z21 ?_ (hc:=by apply w1)|refine z21 ?_ (hc:=by apply w2)|(refine zm ?_ ?_<;>intro hg)|(exfalso;omega))
  refine ak (cr 4 2 rfl) ?_;repeat' (first|refine zr ?_|fail)
  exact⟨.inl rfl,_,rfl,rfl,rfl⟩
end
section
open Go Go.RowKit
theorem FnP.args {dr:Bool} {P:Program} {τ:List (Nat×TI)} {τok:dz P τ} {f:FuncId} {args args':List SV} {R:SV->Prop} (hc:FnP dr P τ τok f args R) (h:∀ X e w vs,RelL X e w args' vs->RelL X e w args vs):FnP dr P τ τok f args' R :=
 ⟨hc.1,λO e w vs hH hr=>hc.2 O e w vs hH (h _ _ _ _ hr)⟩
theorem uci {X e w} {es:Nat} {v:Value} (h:Rel X e w .nils v):Rel X e w (.d (.slice es [])) v:=by
 rw [show v = .slice none 0 0 from h];exact .nil
theorem ubt {X e w} {p q:Nat} {v:Value} (h:Rel X e w (.agg [.nils,.nils]) v):Rel X e w (.agg [.d (.slice p []),.d (.slice q [])]) v:=by
 obtain⟨us,hv,hr⟩:=h;match us,hr with
 | [a,b],⟨h1,h2,_⟩=>exact⟨[a,b],hv,uci h1,uci h2,trivial⟩
 | [],h=>exact h.elim
 | [_],⟨_,h⟩=>exact h.elim
 | _::_::_::_,⟨_,_,h⟩=>exact h.elim
attribute [local irreducible] DW DS DL DQ Ev FnOk FnP ef bt DT
theorem km (r:Rpl) (e w:Int) (want:Rpl):Fn 38 [jf r,.d (.int .i64 e),.d (.int .i64 w),jf want] (λres=>res = .d (.bool (decide (e=w) && (ea Upd.same r.has (if w≠0 then ⟨[],[]⟩ else want).has && ea Upd.same r.waits (if w≠0 then ⟨[],[]⟩ else want).waits)))):=by
 refine fqE Tryz.func38 ?_;intro O w0 E0 β0;have w1:=wg r want;have w2:=wg r ⟨[],[]⟩;by_cases hw:w=0
 ·rw [if_neg (by simp [hw])];clear w2;by_cases he:e=w
  ·rw [decide_eq_true he,Df];repeat' (first|refine zr ?_|refine z21 ?_ (hc:=by apply w1)|(refine zm ?_ ?_<;>intro hg)|(exfalso;omega))
   exact a7 rfl rfl
  ·rw [decide_eq_false he,Dw];repeat' (first|refine zr ?_|refine z21 ?_ (hc:=by apply w1)|(refine zm ?_ ?_<;>intro hg)|(exfalso;omega))
   exact a7 rfl rfl
 ·rw [if_pos hw];clear w1;by_cases he:e=w
  ·rw [decide_eq_true he,Df];repeat' ((fail_if_success (apply eo 3));(first|refine zs ?_|(refine zm ?_ ?_<;>intro hg)|fail))
   all_goals try (exfalso;omega)
   refine ak (bi 1 0 5 rfl rfl rfl) ?_;refine ak (bi 1 1 5 rfl rfl rfl) ?_;repeat' (first|refine zr ?_|refine z21 ?_ (hc:=by apply w2)|(refine zm ?_ ?_<;>intro hg)|(exfalso;omega))
   exact a7 rfl rfl
  ·rw [decide_eq_false he,Dw];repeat' (first|refine zr ?_|(refine zm ?_ ?_<;>intro hg)|(exfalso;omega))
   exact a7 rfl rfl
theorem uad (l:List Fct) (e w:Int) (want:List Fct):Fn 18 [.d (.slice 2 (l.map ae)),.d (.int .i64 e),.d (.int .i64 w),.d (.slice 2 (want.map ae))] (λr=>r = .d (.bool (decide (e=w) && ea Fct.same l (if w≠0 then [] else want)))):=by
 refine fqE Tryz.func18 ?_;intro O w0 E0 β0;have w1:=jj l want;have w2:=jj l [];by_cases hw:w=0
 ·rw [if_neg (by simp [hw])];clear w2;by_cases he:e=w
  ·rw [decide_eq_true he,Df];repeat' (first|refine zr ?_|refine z21 ?_ (hc:=by apply w1)|(refine zm ?_ ?_<;>intro hg)|(exfalso;omega))
   exact⟨.inl rfl,_,rfl,rfl,rfl⟩
  ·rw [decide_eq_false he,Dw];repeat' (first|refine zr ?_|refine z21 ?_ (hc:=by apply w1)|(refine zm ?_ ?_<;>intro hg)|(exfalso;omega))
   exact⟨.inl rfl,_,rfl,rfl,rfl⟩
 ·rw [if_pos hw];clear w1;by_cases he:e=w
  ·rw [decide_eq_true he,Df];repeat' ((fail_if_success (apply eo 3));(first|refine zs ?_|(refine zm ?_ ?_<;>intro hg)|fail))
   all_goals try (exfalso;omega)
   refine ak (cr 3 2 rfl) ?_;repeat' (first|refine zr ?_|refine z21 ?_ (hc:=by apply w2)|(refine zm ?_ ?_<;>intro hg)|(exfalso;omega))
   exact⟨.inl rfl,_,rfl,rfl,rfl⟩
  ·rw [decide_eq_false he,Dw];repeat' (first|refine zr ?_|(refine zm ?_ ?_<;>intro hg)|(exfalso;omega))
   exact⟨.inl rfl,_,rfl,rfl,rfl⟩
theorem uak (m:List Fct):dm m m=[]:=by
 unfold dm;rw [List.filter_eq_nil_iff];intro x hx;rw [hasF_iff.2 hx];exact Bool.false_ne_true
theorem ud {p:Prg} {r:Rpl} (hp:dc cz p=0) (hg:RpGood r):openV p r=((mdl p (cq p r)).2,(mdl p (cq p r)).1):=by
 unfold openV;rw [if_neg (by simpa using hp),if_neg (by simpa using hg.check)]
theorem viewTells_fn (p:Prg) (r:Rpl) (l:List Upd) (h1:r.has.length<=4398046511104) (h2:r.waits.length<=4398046511104) (wb:Fn 37 [] (λr=>r = .d (.bool true))) :
  Fn 5 [gu p,jf r,.d (.slice 5 (l.map aa))] (λres=>res = .d (.bool true)):=by
 refine fqE Tryz.func5 ?_;intro O w0 E0 β0;have w1:=ubs p r h1 h2;have w2:=uaj p r l h1 h2;have w3:=uch p r h1 h2;have hn:=openV_none (p:=p) (r:=r);have hd:delivV p r l=if (openV p r).2≠0 then (rplO,[],(openV p r).2)
  else if 200<l.length then (rplO,[],2)
  else if (runV p l r (openV p r).1 []).2.2.2≠0 then (rplO,[],(runV p l r (openV p r).1 []).2.2.2)
  else ((runV p l r (openV p r).1 []).1,(runV p l r (openV p r).1 []).2.2.1,0):=rfl
 have ho:openV p r=if dc cz p≠0 then ([],dc cz p) else if dp r≠0 then ([],dp r) else ((mdl p (cq p r)).2,(mdl p (cq p r)).1):=rfl
 generalize delivV p r l=D at *;have ll:(l.map aa).length=l.length:=Aa _;generalize hoo:openV p r=o at *;obtain⟨s,e⟩:=o;dsimp only at hd hn;have w4:=uad s e e s;have hs4:ea Fct.same s (if e≠0 then [] else s)=true:=by
  by_cases he:e=0
  ·rw [if_neg (by simpa using he)];exact gl (λx=>(fsame_iff x x).2 rfl) s
  ·rw [if_pos he,hn he];rfl
 rw [hs4,decide_eq_true rfl] at w4;by_cases he:e=0
 ·subst he;rw [if_neg (by simp)] at hd;by_cases hl:200<l.length
  ·rw [if_pos hl] at hd;subst hd;have w5:=km rplO 2 2 r;rw [if_pos (by decide),decide_eq_true rfl] at w5;repeat' (first|refine zs ?_|refine z21 ?_ (hc:=by apply w1)|refine z21 ?_ (hc:=by apply w2)|refine z21 ?_ (hc:=by apply w3)|(refine zm ?_ ?_<;>intro hg)|(exfalso;omega))
   refine ag (ι:=Unit) (λ_=>⟨2,[(2,.d (.slice 5 (l.map aa))),(7,.d (.slice 2 (s.map ae))),(8,.d (.int .i64 0)),(9,.loc 0 0),(10,.d (.slice 2 [])),(11,.d (.int .i64 2)),(12,.d (.slice 2 (s.map ae))),(13,.d (.int .i64 0)),(14,.d (.int .i64 2)),(15,.loc 1 0),(17,.nils),(18,.d (.int .i64 0))],
     [(0,.blk 72 [.d (.slice 5 []),.d (.slice 5 [])]),(1,.blk 72 [.d (.slice 5 (r.has.map aa)),.d (.slice 5 (r.waits.map aa))])]⟩) (λ_=>True) (λ_=>0) () trivial (er (λj=>match j with|0=>2|1=>3|j=>j)) ?_
   intro _ _;clear w1 w2 w3;repeat' (first|refine zr ?_|refine z21 ?_ (hc:=by apply wb)|refine z21 ?_ (hc:=by apply w4)|refine z21 ?_ (hc:=by apply w5)|(refine zm ?_ ?_<;>intro hg)|(exfalso;omega))
   all_goals exact a7 rfl rfl
  ·rw [if_neg hl] at hd;have hpr:dc cz p=0/\dp r=0:=by
    by_cases hp:dc cz p=0
    ·rw [if_neg (by simpa using hp)] at ho;by_cases hr:dp r=0
     ·exact⟨hp,hr⟩
     ·rw [if_pos hr] at ho;exact absurd (congrArg Prod.snd ho).symm hr
    ·rw [if_pos hp] at ho;exact absurd (congrArg Prod.snd ho).symm hp
   obtain⟨hp,hr⟩:=hpr;rw [if_neg (by simpa using hp),if_neg (by simpa using hr)] at ho;have hs0:s=(mdl p (cq p r)).2/\(mdl p (cq p r)).1=0 :=
     ⟨congrArg Prod.fst ho,(congrArg Prod.snd ho).symm⟩
   clear ho;generalize hR:runV p l r s []=R at hd;repeat' (first|refine zs ?_|refine z21 ?_ (hc:=by apply w1)|refine z21 ?_ (hc:=by apply w2)|refine z21 ?_ (hc:=by apply w3)|(refine zm ?_ ?_<;>intro hg)|(exfalso;omega))
   refine ak (cd (t:=17) 49 2 rfl) ?_;refine ag (ι:=Nat×Rpl×List Fct×List Chg×Int) (λx=>⟨4,[(2,.d (.slice 5 (l.map aa))),(3,.loc 0 0),(7,.d (.slice 2 (s.map ae))),(8,.d (.int .i64 0)),(9,.loc 1 0),(10,.d (.slice 2 (D.2.1.map xz))),(11,.d (.int .i64 D.2.2)),(12,.d (.slice 2 (s.map ae))),(13,.d (.int .i64 0)),(14,.d (.int .i64 x.2.2.2.2)),(15,.loc 2 0),(16,.d (.slice 2 (x.2.2.1.map ae))),(17,.row 3),(18,.d (.int .i64 x.1))],
     [(0,.blk 26 [.d (.slice 1 (p.arity.map aq)),.d (.slice 1 (p.names.map oq)),.d (.slice 5 (p.rules.map dj))]),(1,.blk 72 [.d (.slice 5 (D.1.has.map aa)),.d (.slice 5 (D.1.waits.map aa))]),(2,.blk 72 [.d (.slice 5 (x.2.1.has.map aa)),.d (.slice 5 (x.2.1.waits.map aa))]),(3,.row 49 2 (x.2.2.2.1.map xz))]⟩)
    (λx=>x.1<=l.length/\x.2.2.2.1.length=x.1/\((x.2.2.2.2=0/\R=runV p (l.drop x.1) x.2.1 x.2.2.1 x.2.2.2.1/\RpGood x.2.1/\x.2.2.1=(mdl p (cq p x.2.1)).2/\(mdl p (cq p x.2.1)).1=0)∨(x.2.2.2.2≠0/\R.2.2.2=x.2.2.2.2))) (λx=>l.length-x.1)
    (0,r,s,[],0) ⟨Ak _,rfl,.inl ⟨rfl,hR.symm,RpGood.of hr,hs0⟩⟩ (er (λj=>match j with|1=>2|2=>3|3=>4|j=>j)) ?_
   clear w1 w2 w3;rintro⟨i,r1,m1,acc,e⟩ ⟨g1,g4,g5⟩;dsimp only at g1 g4 g5 ⊢;have la:(acc.map xz).length=acc.length:=Aa _;by_cases he:e=0
   ·subst he;have g5:R=runV p (l.drop i) r1 m1 acc/\RpGood r1/\m1=(mdl p (cq p r1)).2/\(mdl p (cq p r1)).1=0:=by
     rcases g5 with ⟨_,h⟩|⟨h,_⟩
     ·exact h
     ·exact absurd rfl h
    obtain⟨g5,g2,g3,g6⟩:=g5;by_cases hi:i<l.length
    ·have hst:stepV p r1 m1 l[i]=if db l[i]≠0 then (r1,m1,([],[]),db l[i])
      else if hasU r1.both l[i].id=true then (r1,m1,([],[]),0)
      else if 200<=r1.both.length then (r1,m1,([],[]),2)
      else if (mdl p (cq p (putR r1 l[i]))).1≠0 then (putR r1 l[i],(mdl p (cq p (putR r1 l[i]))).2,([],[]),(mdl p (cq p (putR r1 l[i]))).1)
      else (putR r1 l[i],(mdl p (cq p (putR r1 l[i]))).2,(a8 (dm (mdl p (cq p (putR r1 l[i]))).2 m1),a8 (dm m1 (mdl p (cq p (putR r1 l[i]))).2)),0):=rfl
     rw [Am hi,runV] at g5;generalize stepV p r1 m1 l[i]=t at *;have k1:=x8 l[i];by_cases hc:db l[i]=0
     ·rw [if_neg (by simpa using hc)] at hst;rw [hc] at k1;have hgb:=g2.len;have k2:=addOf_fn r1 l[i] g2.ok (by omega) (by omega) (λv hv=>by
       have hv:db v=0:=by
        rcases hv with rfl|hv
        ·exact hc
        ·exact g2.each v (List.mem_append.2 hv)
       have h:=qh hv;have:=h.parents
       have:=h.takes
       omega)
      by_cases hh:hasU r1.both l[i].id=true
      ·rw [if_pos hh] at hst;subst hst;rw [if_neg (by simp)] at g5;have k3:Fn 35 [jf r1,gc l[i]] (λres=>res = .tup [jf r1,.d (.bool true)]):=FnP.imp k2 λres hres=>by
        rcases hres with ⟨_,h⟩|⟨h,_⟩|⟨h,_⟩
        ·exact h
        ·rw [hh] at h;cases h
        ·rw [hh] at h;cases h
       have k4:=uch p r1 (by omega) (by omega);rw [ud hp g2,<- g3,g6] at k4;have k5:=uf m1 m1 (by rw [g3];have:=(n3 p (cq p r1)).1;omega);rw [uak] at k5;clear k2;repeat' (first|refine zs ?_|refine z21 ?_ (hc:=by apply k1)|refine z22 ?_ (hc:=by apply k3)|refine z21 ?_ (hc:=by apply k4)|refine z21 ?_ (hc:=by apply k5)|(refine zm ?_ ?_<;>intro hg)|(exfalso;omega))
       exact⟨(i+1,r1,m1,acc++[([],[])],0),⟨hi,by dsimp only;rw [Af,g4];rfl,.inl ⟨rfl,g5,g2,g3,g6⟩⟩,ai (λj=>match j with|3=>_|j=>j) ⟨rfl,rfl,rfl,rfl,rfl,rfl,rfl,rfl,rfl,rfl,rfl,rfl,rfl,rfl,trivial⟩ ⟨rfl,rfl,rfl,by rw [Ar];rfl,trivial⟩ rfl rfl rfl rfl rfl rfl,by show l.length-(i+1)<l.length-i;omega⟩
      ·rw [if_neg hh] at hst;have hno:hasU r1.both l[i].id=false:=by simpa using hh
       have hb:r1.both.length=r1.has.length+r1.waits.length:=Af;by_cases hf:200<=r1.both.length
       ·rw [if_pos hf] at hst;subst hst;rw [if_pos (by simp)] at g5;subst g5;rw [if_pos (by simp)] at hd;have hd:D=(rplO,[],2):=hd;subst hd;have k3:Fn 35 [jf r1,gc l[i]] (λres=>res = .tup [jf ⟨[],[]⟩,.d (.bool false)]):=FnP.imp k2 λres hres=>by
         rcases hres with ⟨h,_⟩|⟨_,_,h⟩|⟨_,h,_⟩
         ·exact absurd h hh
         ·exact h
         ·omega
        have w5:=km rplO 2 2 r1;rw [if_pos (by decide),decide_eq_true rfl] at w5;clear k2;repeat' (first|refine zr ?_|(apply inB_x;exact rfl)|refine z21 ?_ (hc:=by apply k1)|refine z22 ?_ (hc:=by apply k3)|refine z21 ?_ (hc:=by apply wb)|refine z21 ?_ (hc:=by apply w4)|refine z21 ?_ (hc:=by apply w5)|(refine zm ?_ ?_<;>intro hg)|(exfalso;omega))
        all_goals exact a7 rfl rfl
       ·rw [if_neg hf] at hst;obtain⟨_,o,ho⟩:=g2.ok.add hno;rw [putR_is ho] at hst;have k3:Fn 35 [jf r1,gc l[i]] (λres=>res = .tup [jf o,.d (.bool true)]):=FnP.imp k2 λres hres=>by
         rcases hres with ⟨h,_⟩|⟨_,h,_⟩|⟨_,_,o2,h2,h⟩
         ·exact absurd h hh
         ·exact absurd h hf
         ·rw [h2.unique ho] at h;exact h
        have hg2:=g2.put hc hno (by omega) ho;have hgo:=hg2.len;have k4:=uch p o (by omega) (by omega);rw [ud hp hg2] at k4;have hsm:=n3 p (cq p o);generalize hx:mdl p (cq p o)=x at *;have hm1:m1.length<=60:=by rw [g3];exact (n3 p (cq p r1)).1
        have k5:=uf x.2 m1 (by have:=hsm.1;omega);have k6:=uf m1 x.2 (by omega);clear k2;by_cases hx0:x.1=0
        ·rw [if_neg (by simpa using hx0)] at hst;subst hst;rw [if_neg (by simp)] at g5;rw [hx0] at k4;repeat' (first|refine zs ?_|refine z21 ?_ (hc:=by apply k1)|refine z22 ?_ (hc:=by apply k3)|refine z21 ?_ (hc:=by apply k4)|refine z21 ?_ (hc:=by apply k5)|refine z21 ?_ (hc:=by apply k6)|(refine zm ?_ ?_<;>intro hg)|(exfalso;omega))
         exact⟨(i+1,o,x.2,acc++[(a8 (dm x.2 m1),a8 (dm m1 x.2))],0),⟨hi,by dsimp only;rw [Af,g4];rfl,.inl ⟨rfl,g5,hg2,by dsimp only;rw [hx],by dsimp only;rw [hx];exact hx0⟩⟩,ai (λj=>match j with|3=>_|j=>j) ⟨rfl,rfl,rfl,rfl,rfl,rfl,rfl,rfl,rfl,rfl,rfl,rfl,rfl,rfl,trivial⟩ ⟨rfl,rfl,rfl,by rw [Ar];rfl,trivial⟩ rfl rfl rfl rfl rfl rfl,by show l.length-(i+1)<l.length-i;omega⟩
        ·rw [if_pos (by simpa using hx0)] at hst;subst hst;rw [if_pos (by simpa using hx0)] at g5;repeat' (first|refine zs ?_|refine z21 ?_ (hc:=by apply k1)|refine z22 ?_ (hc:=by apply k3)|refine z21 ?_ (hc:=by apply k4)|refine z21 ?_ (hc:=by apply k5)|refine z21 ?_ (hc:=by apply k6)|(refine zm ?_ ?_<;>intro hg)|(exfalso;omega))
         exact⟨(i+1,o,x.2,acc++[(a8 (dm x.2 m1),a8 (dm m1 x.2))],x.1),⟨hi,by dsimp only;rw [Af,g4];rfl,.inr ⟨hx0,by rw [g5]⟩⟩,ai (λj=>match j with|3=>_|j=>j) ⟨rfl,rfl,rfl,rfl,rfl,rfl,rfl,rfl,rfl,rfl,rfl,rfl,rfl,rfl,trivial⟩ ⟨rfl,rfl,rfl,by rw [Ar];rfl,trivial⟩ rfl rfl rfl rfl rfl rfl,by show l.length-(i+1)<l.length-i;omega⟩
     ·rw [if_pos hc] at hst;subst hst;rw [if_pos hc] at g5;subst g5;rw [if_pos hc] at hd;subst hd;generalize db l[i]=E at *;have w5:=km rplO E E r1;rw [if_pos hc,decide_eq_true rfl] at w5;repeat' (first|refine zr ?_|(apply inB_x;exact rfl)|refine z21 ?_ (hc:=by apply k1)|refine z21 ?_ (hc:=by apply wb)|refine z21 ?_ (hc:=by apply w4)|refine z21 ?_ (hc:=by apply w5)|(refine zm ?_ ?_<;>intro hg)|(exfalso;omega))
      all_goals exact a7 rfl rfl
    ·have hdr:l.drop i=[]:=Ec (by omega);rw [hdr,runV] at g5;subst g5;rw [if_neg (by simp)] at hd;have hd:D=(r1,acc,0):=hd;subst hd;have w5:=km r1 0 0 r1;rw [if_neg (by simp),decide_eq_true rfl,gl Upd.same_refl,gl Upd.same_refl] at w5;repeat' ((fail_if_success (apply eo 21));(first|refine zs ?_|(refine zm ?_ ?_<;>intro hg)|fail))
     all_goals try (exfalso;omega)
     refine ak (bh 17 rfl rfl rfl) ?_;repeat' (first|refine zr ?_|refine z21 ?_ (hc:=by apply wb)|refine z21 ?_ (hc:=by apply w4)|refine z21 ?_ (hc:=by apply w5)|(refine zm ?_ ?_<;>intro hg)|(exfalso;omega))
     all_goals try (exfalso;exact hg rfl)
     refine ag (ι:=Nat) (λj=>⟨0,[(10,.d (.slice 2 (acc.map xz))),(17,.d (.slice 2 (acc.map xz))),(23,.d (.int .i64 j))],([]:Hp)⟩) (λj=>j<=acc.length) (λj=>acc.length-j) 0 (Ak _) ?_ ?_
     ·exact er id
     intro j gj;by_cases hj:j<acc.length
     ·have v1:=jj acc[j].1 acc[j].1;have v2:=jj acc[j].2 acc[j].2;rw [gl (λx=>(fsame_iff x x).2 rfl) acc[j].1] at v1;rw [gl (λx=>(fsame_iff x x).2 rfl) acc[j].2] at v2;repeat' (first|refine zr ?_|refine z22 ?_ (hc:=by apply v1)|refine z22 ?_ (hc:=by apply v2)|(refine zm ?_ ?_<;>intro hg)|(exfalso;omega))
      exact⟨j+1,hj,er id,by omega⟩
     ·repeat' (first|refine zr ?_|(refine zm ?_ ?_<;>intro hg)|(exfalso;omega))
      all_goals exact a7 rfl rfl
   ·have hE:R.2.2.2=e:=by
     rcases g5 with ⟨h,_⟩|⟨_,h⟩
     ·exact absurd h he
     ·exact h
    rw [hE,if_pos he] at hd;subst hd;have w5:=km rplO e e r1;rw [if_pos he,decide_eq_true rfl] at w5;repeat' (first|refine zr ?_|refine z21 ?_ (hc:=by apply wb)|refine z21 ?_ (hc:=by apply w4)|refine z21 ?_ (hc:=by apply w5)|(refine zm ?_ ?_<;>intro hg)|(exfalso;omega))
    all_goals exact a7 rfl rfl
 ·rw [if_pos he] at hd;subst hd;have w5:=km rplO e e r;rw [if_pos he,decide_eq_true rfl] at w5;repeat' (first|refine zs ?_|refine z21 ?_ (hc:=by apply w1)|refine z21 ?_ (hc:=by apply w2)|refine z21 ?_ (hc:=by apply w3)|(refine zm ?_ ?_<;>intro hg)|(exfalso;omega))
  refine ag (ι:=Unit) (λ_=>⟨2,[(2,.d (.slice 5 (l.map aa))),(7,.d (.slice 2 (s.map ae))),(8,.d (.int .i64 e)),(9,.loc 0 0),(10,.d (.slice 2 [])),(11,.d (.int .i64 e)),(12,.d (.slice 2 (s.map ae))),(13,.d (.int .i64 e)),(14,.d (.int .i64 e)),(15,.loc 1 0),(17,.nils),(18,.d (.int .i64 0))],
    [(0,.blk 72 [.d (.slice 5 []),.d (.slice 5 [])]),(1,.blk 72 [.d (.slice 5 (r.has.map aa)),.d (.slice 5 (r.waits.map aa))])]⟩) (λ_=>True) (λ_=>0) () trivial (er (λj=>match j with|0=>2|1=>3|j=>j)) ?_
  intro _ _;clear w1 w2 w3;repeat' (first|refine zr ?_|refine z21 ?_ (hc:=by apply wb)|refine z21 ?_ (hc:=by apply w4)|refine z21 ?_ (hc:=by apply w5)|(refine zm ?_ ?_<;>intro hg)|(exfalso;omega))
  all_goals exact a7 rfl rfl
theorem uae {l M:List Fct} (he:rg smallP l=0) (hs:a8 l=l) (hsM:a8 M=M) (hf:bm (e8 smallP.arity) M=0) (hlen:M.length<=60) (i2:InvM (lvV smallP (fa smallP) 0 l) l M)
  (key:∀ r∈smallP.rules,manyW M r=true/\∀ x∈hdW M r,x∈M):ModelR smallP l 0 M:=by
 have hst:Strict M:=by
  have:=(bp M).1
  rw [hsM] at this;exact this
 have hfit0:Fit (lvV smallP (fa smallP) 0 l) l M:=s6 i2 (λr hr=>(key r (List.mem_filter.1 hr).1).1) λr hr=>(key r (List.mem_filter.1 hr).1).2
 have hfit1:Fit (lvV smallP (fa smallP) 1 M) M M:=by
  have hno:∀ r∈(lvV smallP (fa smallP) 1 M).rs,False:=by
   intro r hr';obtain⟨hm,hl⟩:=List.mem_filter.1 hr';rw [ii] at hm;simp only [Bh,B8,or_false] at hm;rw [vy] at hl;rcases hm with rfl|rfl<;>exact absurd (of_decide_eq_true hl) (by decide)
  exact s6 (n5 hst ⟨λx hx=>factE_ok (im hf x hx),λ_ _=>Iff.rfl⟩ hlen) (λr hr=>(hno r hr).elim) λr hr=>(hno r hr).elim
 exact .ok M he ⟨M,⟨l,hs.symm,hfit0⟩,hfit1⟩
theorem uap {l:List Fct} (h:qz smallP.arity l=0):rg smallP l=0:=by
 unfold rg;rw [if_neg (by rw [show dc cz smallP=0 by kernel_rfl];simp),if_neg (by rw [uaz];simp)];exact h
abbrev l45:List Fct:=[⟨0,[4,5]⟩]
abbrev m45:List Fct:=[⟨0,[4,5]⟩,⟨1,[4,5]⟩]
theorem ucy {S:List Fct} {r:Rul} (h:ed S r.body (jz r.body) (e0 r.vars.toNat)=[]):manyW S r=true/\hdW S r=[]:=by
 obtain⟨h1,h2⟩:=ue h List.Pairwise.nil (by simp);exact⟨h1,by unfold hdW;rw [h2];unfold jm;simp;rfl⟩
theorem ube:ModelR smallP [] 0 []:=by
 have he:=uap (l:=[]) (by kernel_rfl);refine uae he (by kernel_rfl) (by kernel_rfl) (by kernel_rfl) (by decide) (n5 .nil ⟨(mOk he).facts,λ_ _=>Iff.rfl⟩ (by decide)) ?_;intro r hr;rw [ii] at hr;simp only [Bh,B8,or_false] at hr;rcases hr with rfl|rfl
 ·obtain⟨h1,h2⟩:=ucy (S:=[]) (r:=i4) (by kernel_rfl);exact⟨h1,λx hx=>by rw [h2] at hx;exact hx⟩
 ·obtain⟨h1,h2⟩:=ucy (S:=[]) (r:=ow) (by kernel_rfl);exact⟨h1,λx hx=>by rw [h2] at hx;exact hx⟩
theorem ubu:ModelR smallP l45 0 m45:=by
 have he:=uap (l:=l45) (by kernel_rfl);have ho:=mOk he;have hV:=lvV_ok ho.pr ho.fit 0 l45;have hst0:Strict l45:=by
  have:=(bp l45).1
  rw [show a8 l45=l45 by kernel_rfl] at this;exact this
 have i0:InvM (lvV smallP (fa smallP) 0 l45) l45 l45:=n5 hst0 ⟨ho.facts,λ_ _=>Iff.rfl⟩ (by decide);have hQ:i4∈(lvV smallP (fa smallP) 0 l45).rs:=List.mem_filter.2 ⟨by rw [ii];simp,by rw [vy];decide⟩;have q1:manyW l45 i4=true/\fm l45 i4=[[4,5]]:=ue (by kernel_rfl) (Dc _ _) (by simp);have q2:manyW m45 i4=true/\fm m45 i4=[[4,5]]:=ue (by kernel_rfl) (Dc _ _) (by simp);have hq:hdW l45 i4=[⟨1,[4,5]⟩]:=by unfold hdW;rw [q1.2];kernel_rfl
 have hq2:hdW m45 i4=[⟨1,[4,5]⟩]:=by unfold hdW;rw [q2.2];kernel_rfl
 have i1:=inv_put hV i0 (H:=[⟨1,[4,5]⟩]) (λx hx=>⟨i4,hQ,l45,i0,by show x∈hdW l45 i4;rw [hq];exact hx⟩) (by decide);rw [show a8 (l45++[⟨1,[4,5]⟩])=m45 by kernel_rfl] at i1;refine uae he (by kernel_rfl) (by kernel_rfl) (by kernel_rfl) (by decide) i1 ?_;intro r hr;rw [ii] at hr;simp only [Bh,B8,or_false] at hr;rcases hr with rfl|rfl
 ·refine⟨q2.1,λx hx=>?_⟩
  rw [hq2,A1] at hx;subst hx;simp [m45]
 ·obtain⟨h1,h2⟩:=ucy (S:=m45) (r:=ow) (by kernel_rfl);exact⟨h1,λx hx=>by rw [h2] at hx;cases hx⟩
theorem ucz {p:Prg} {l m:List Fct} {e:Int} (h:ModelR p l e m):mdl p l=(e,m):=by
 obtain⟨h1,h2⟩:=(mdl_is p l).unique h;exact Prod.ext h1 h2
theorem uaq:dc cz smallP=0:=by kernel_rfl
theorem uar:openV smallP ⟨[firstU],[]⟩=(fullF,0):=by
 rw [ud uaq (RpGood.of (by kernel_rfl)),show cq smallP ⟨[firstU],[]⟩=fe by kernel_rfl,ucz uah]
theorem ubf:openV smallP rplO=([],0):=by
 rw [ud uaq (RpGood.of (by kernel_rfl)),show cq smallP rplO=[] by kernel_rfl,ucz ube]
theorem ubv:stepV smallP rplO [] secondU=(⟨[],[secondU]⟩,[],([],[]),0):=by
 unfold stepV;rw [if_neg (by rw [show db secondU=0 by kernel_rfl];simp),if_neg (by rw [show hasU rplO.both secondU.id=false by kernel_rfl];simp),if_neg (by decide),putR_is (r:=rplO) rpl1_ok,show cq smallP ⟨[],[secondU]⟩=[] by kernel_rfl,ucz ube,if_neg (by simp)];rfl
theorem ubw:stepV smallP ⟨[],[secondU]⟩ [] firstU=(⟨[firstU,secondU],[]⟩,m45,(m45,[]),0):=by
 unfold stepV;rw [if_neg (by rw [show db firstU=0 by kernel_rfl];simp),if_neg (by rw [show hasU (Rpl.both ⟨[],[secondU]⟩) firstU.id=false by kernel_rfl];simp),if_neg (by decide),putR_is (r:=⟨[],[secondU]⟩) rpl2_ok,show cq smallP ⟨[firstU,secondU],[]⟩=l45 by kernel_rfl,ucz ubu,if_neg (by simp)];rw [show a8 (dm m45 [])=m45 by kernel_rfl,show a8 (dm [] m45)=[] by kernel_rfl]
theorem ubg:delivV smallP rplO [secondU,firstU]=(⟨[firstU,secondU],[]⟩,[([],[]),(m45,[])],0):=by
 unfold delivV;rw [ubf,if_neg (by simp),if_neg (by decide)];simp [runV,ubv,ubw]
end
end Go.Proofs.YtapciiffpnociadGreat
