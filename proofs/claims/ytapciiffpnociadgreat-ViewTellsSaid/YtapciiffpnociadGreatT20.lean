/- Several texts in one: RuE RuG RuK RuS RuT. Condition: none. -/
import Derived.Test.YtapciiffpnociadGreatT19
import Derived.Test.YtapciiffpnociadGreatT10
import Derived.Test.YtapciiffpnociadGreatT01
import Derived.Test.YtapciiffpnociadGreatT18
set_option maxHeartbeats 8000000
open Bool renaming false_eq_true→B3
open Classical renaming byContradiction→Bc
open List renaming append_nil→Bt,drop_eq_getElem_cons→Am,drop_of_length_le→As,ext_getElem?→Ci,filter_cons→B7,flatMap_append→Di,flatMap_nil→Ht,foldl_append→D5,getD→A6,getElem?_append_right→A4,getElem?_eq_getElem→Ad,getElem?_set_ne→Ce,getElem?_set_self→B4,getElem_map→Dh,getElem_mem→Aj,length_append→Af,length_map→Aa,length_nil→Dl,length_set→Ba,length_take→Aq,map_append→Ar,map_replicate→Dm,map_set→C3,mem_cons_of_mem→Ag,mem_cons_self→Ac,replicate→Ap,take_append_drop→Ds,take_of_length_le→Ai,take_succ_eq_append_getElem→An
open Nat renaming le_refl→Ah,zero_le→Ak
namespace Go.Proofs.YtapciiffpnociadGreat
open Go Go.RowKit
def ou (w:List (List Int)) (st:List (List Int)×Bool):List (List Int)×Bool:=if st.2 then st else (st.1++w.take (2000-st.1.length),decide (2000<st.1.length+w.length))
theorem tg (st:List (List Int)×Bool) (h:st.1.length<=2000):ou [] st=st:=by
 unfold ou;obtain⟨o,m⟩:=st;cases m with
 | true=>rfl
 | false=>simp only [List.take_nil,Bt,Dl,Nat.add_zero];rw [if_neg (by simp),decide_eq_false (by simpa using h)]
theorem addW_len (w:List (List Int)) (st:List (List Int)×Bool) (h:st.1.length<=2000):(ou w st).1.length<=2000:=by
 unfold ou;split
 ·exact h
 ·simp only [Af,Aq];omega
theorem addW_app (w1 w2:List (List Int)) (st:List (List Int)×Bool) (h:st.1.length<=2000):ou (w1++w2) st=ou w2 (ou w1 st):=by
 obtain⟨o,m⟩:=st;simp only at h;cases m with
 | true=>rfl
 | false =>
  unfold ou;simp only [B3,if_false];by_cases hb:2000<o.length+w1.length
  ·rw [decide_eq_true hb];simp only [if_true,Af];rw [decide_eq_true (by omega),List.take_append_of_le_length (by omega)]
  ·rw [decide_eq_false hb];simp only [B3,if_false,Af,Aq];have h1:w1.take (2000-o.length)=w1:=Ai (by omega);rw [h1,List.take_append,h1,List.append_assoc];congr 2
   ·congr 2;omega
   ·have:min (2000-o.length) w1.length=w1.length:=by omega
    rw [this,Nat.add_assoc]
theorem addW_full {o:List (List Int)} (a:List Int) (h:o.length=2000):ou [a] (o,false)=(o,true):=by
 unfold ou;simp [h]
theorem addW_one {o:List (List Int)} (a:List Int) (h:o.length<2000):ou [a] (o,false)=(o++[a],false):=by
 unfold ou;simp only [B3,if_false,List.length_cons,Dl];rw [decide_eq_false (by omega),show 2000-o.length=(1999-o.length)+1 by omega];simp
theorem addW_many (w:List (List Int)) (o:List (List Int)):ou w (o,true)=(o,true):=rfl
def re (body:List Ltl) (i:Nat):List Ltl:=(body.drop i).filter λl=>decide (l.kind=1)
theorem yesL_skip {body:List Ltl} {i:Nat} (hi:i<body.length) (h:body[i].kind≠1):re body i=re body (i+1):=by
 unfold re;rw [Am hi,B7,if_neg (by simpa using h)]
theorem yesL_yes {body:List Ltl} {i:Nat} (hi:i<body.length) (h:body[i].kind=1):re body i=body[i]::re body (i+1):=by
 unfold re;rw [Am hi,B7,if_pos (by simpa using h)]
theorem yesL_end {body:List Ltl} {i:Nat} (hi:body.length<=i):re body i=[]:=by unfold re;rw [List.drop_of_length_le hi];rfl
theorem recP_num {S:List Fct}:∀ {body:List Ltl} {e e':RE},(∀ l∈body,okL S e.length l)->o6 e->tt body e=some e'->o6 e'
 | [],e,e',_,hn,h=>by simp only [tt,List.foldlM_nil] at h;cases h;exact hn
 | l::body,e,e',hok,hn,h=>by
  simp only [tt,List.foldlM_cons] at h
  cases h1:rf e l with
  | none=>rw [h1] at h;cases h
  | some e1 =>
   rw [h1] at h
   have g1:=(ym (hok l (Ac ..)) h1).1
   exact recP_num (body:=body) (e:=e1) (λx hx=>by rw [g1];exact hok x (Ag _ hx)) (recL_num (hok l (Ac ..)) hn h1) h
theorem recN_num' {S:List Fct} {body:List Ltl}:∀ {n:Nat} {e e':RE},(∀ l∈body,okL S e.length l)->o6 e->oh body n e=some e'->o6 e'
 | 0,e,e',_,hn,h=>by simp only [oh,Option.some.injEq] at h;subst h;exact hn
 | n+1,e,e',hok,hn,h=>by
  rw [oh,Option.bind_eq_some_iff] at h
  obtain⟨e1,h1,h2⟩:=h
  have g1:=(yl hok h1).1
  exact recN_num' (λx hx=>by rw [g1];exact hok x hx) (recP_num hok hn h1) h2
theorem recN_num {S:List Fct} {body:List Ltl} {n:Nat} {e e':RE} (hok:okB S e.length body) (hn:o6 e) (h:oh body n e=some e'):o6 e':=recN_num' hok.lit hn h
attribute [local irreducible] DW DS DL DQ Ev FnOk FnP ef bt DT
def gW (go:RE->List (List Int)) (l:Ltl) (e:RE) (x:Fct):List (List Int):=if x.pred=l.pred then (match cw e l.terms x.args with|some e'=>go e'|none=>[]) else []
theorem litW_yes {S:List Fct} {go:RE->List (List Int)} {l:Ltl} {e:RE} (h:l.kind=1):xm S go l e=S.flatMap (gW go l e):=by
 unfold xm;rw [if_pos h];congr 1
def ysW (S:List Fct) (body:List Ltl) (e:RE) (ys:List Ltl):List (List Int):=match ys with
 | []=>[bq e]
 | l::ys=>xm S (ed S body ys) l e
abbrev fctB (x:Fct):HB:=.blk 37 [.d (.int .i64 x.pred),.d (.slice 1 (x.args.map aq))]
def FromOk (r:Rul) (S:List Fct) (i:Nat):Prop:=∀ (e:RE) (out:List (List Int)) (m:Bool),okB S e.length r.body->o6 e->out.length<=2000 ->
 FnOk false Tryz.prog tab b9 160 [.loc 0 0,.d (.int .i64 i),.d (.slice 1 ((bq e).map aq)),.d (.slice 1 ((bx e).map cu))] 1 2 (rh r S out m)
  (λk2 res H=>k2=2/\res = .tup []/\H=rh r S (ou (ed S r.body (re r.body i) e) (out,m)).1 (ou (ed S r.body (re r.body i) e) (out,m)).2)
theorem from_step (r:Rul) (S:List Fct) (hS:S.length<=4398046511104) (i:Nat) (hil:i<=r.body.length) (ih:∀ j,i<j->j<=r.body.length->FromOk r S j):FromOk r S i:=by
 intro e out m hok hn ho;refine frE Tryz.func160 ?_;intro O w0 E0 β0;have lb:(r.body.map ay).length=r.body.length:=Aa _;have hb4:=hok.len;have he8:=hok.vle;have lo:((bq e).map aq).length=e.length:=by rw [Aa,dx]
 have lh:((bx e).map cu).length=e.length:=by rw [Aa,cx]
 have lo':=dx e;have lh':=cx e;cases m with
 | true =>
  rw [addW_many];repeat' (first|refine zr ?_|fail)
  exact⟨.inl rfl,_,rfl,kp id 2 (.tup []) (rh r S out true) ⟨rfl,rfl,rfl⟩⟩
 | false =>
  repeat' (first|(apply x5;exact rfl;exact rfl;exact rfl;exact rfl;exact rfl;exact rfl;exact rfl;exact rfl)|((fail_if_success (apply eo 2));(first|refine zs ?_|fail)))
  refine ak (ai (k':=4) (L':=[(0,.loc 0 0),(1,.d (.int .i64 i)),(2,.row 2),(3,.row 3)]) (H':=[(0,fndB r S (.row 1) false),(1,.row 22 1 (out.map ey)),(2,.row 3 1 ((bq e).map aq)),(3,.row 4 1 ((bx e).map cu))]) (λj=>match j with|2=>3|3=>5|j=>j) ⟨rfl,rfl,rfl,rfl,trivial⟩ ⟨rfl,rfl,rfl,rfl,trivial⟩ rfl rfl rfl rfl rfl rfl) ?_;have w:=reckon_fn r S out false e hok hn;cases hrec:oh r.body (r.body.length+1) e with
  | none =>
   rw [hrec] at w;have hf:ed S r.body (re r.body i) e=[]:=by cases re r.body i<;>(unfold ed;rw [hrec])
   rw [hf,tg _ ho];repeat' (first|refine zs ?_|fail)
   refine bg (λj=>match j with|1=>2|2=>3|3=>1|j=>j) w rfl rfl rfl rfl ⟨rfl,rfl,rfl,rfl,trivial⟩ rfl rfl rfl rfl rfl rfl ?_ ?_
   ·rintro k2 res H2 ⟨rfl,e',rfl⟩;exact⟨rfl,rfl⟩
   rintro k2 res H2 ⟨rfl,e',rfl⟩;change DS _ _ _ _ _ _ _ _;repeat' (first|refine zr ?_|fail)
   exact⟨.inl rfl,_,rfl,kp id 2 (.tup []) (rh r S out false) ⟨rfl,rfl,rfl⟩⟩
  | some e1 =>
   rw [hrec] at w;obtain⟨q1,q2,_,_⟩:=nu hok.lit hrec;have hn1:o6 e1:=recN_num hok hn hrec;rw [<- q1] at hok he8;have hf:ed S r.body (re r.body i) e=if nq S r.body e1 then [] else ysW S r.body e1 (re r.body i):=by
    cases re r.body i<;>(rw [ed,hrec];rfl)
   rw [hf];clear hf hrec q2 lo lh lo' lh' hn q1;have lo:((bq e1).map aq).length=e1.length:=by rw [Aa,dx]
   have lh:((bx e1).map cu).length=e1.length:=by rw [Aa,cx]
   have lo':=dx e1;have lh':=cx e1;repeat' (first|refine zs ?_|fail)
   refine bg (λj=>match j with|1=>2|2=>3|3=>1|j=>j) w rfl rfl rfl rfl ⟨rfl,rfl,rfl,rfl,trivial⟩ rfl rfl rfl rfl rfl rfl ?_ ?_
   ·rintro k2 res H2 ⟨rfl,rfl⟩;exact⟨rfl,rfl⟩
   rintro k2 res H2 ⟨rfl,rfl⟩;change DS _ _ _ _ _ _ _ _;refine mc (bh 2 rfl rfl rfl) ?_;refine mc (bh 3 rfl rfl rfl) ?_;have w2:=fwrong_fn r S out false e1 hok hn1;clear w;cases hwr:nq S r.body e1 with
   | true =>
    rw [hwr] at w2;rw [if_pos rfl,tg _ ho];repeat' refine z0 ?_
    (refine bg id (w2) rfl rfl rfl rfl ⟨rfl,rfl,trivial⟩ rfl rfl rfl rfl rfl rfl ?_ ?_)
    ·rintro k2 res H2 ⟨rfl,rfl⟩;exact⟨rfl,rfl⟩
    rintro k2 res H2 ⟨rfl,rfl⟩;change DS _ _ _ _ _ _ _ _;repeat' (first|refine zr ?_|fail)
    exact⟨.inl rfl,_,rfl,kp id 2 (.tup []) (rh r S out false) ⟨rfl,rfl,rfl⟩⟩
   | false =>
    rw [hwr] at w2;rw [if_neg (by simp)];repeat' refine z0 ?_
    (refine bg id (w2) rfl rfl rfl rfl ⟨rfl,rfl,trivial⟩ rfl rfl rfl rfl rfl rfl ?_ ?_)
    ·rintro k2 res H2 ⟨rfl,rfl⟩;exact⟨rfl,rfl⟩
    rintro k2 res H2 ⟨rfl,rfl⟩;change DS _ _ _ _ _ _ _ _;repeat' (first|refine zs ?_|fail)
    clear w2;refine ag (ι:=Nat) (λj=>⟨2,[(0,.loc 0 0),(1,.d (.int .i64 j)),(2,.d (.slice 1 ((bq e1).map aq))),(3,.d (.slice 1 ((bx e1).map cu)))],rh r S out false⟩)
     (λj=>i<=j/\j<=r.body.length/\re r.body i=re r.body j) (λj=>r.body.length-j) i ⟨Ah _,hil,rfl⟩ (er id) ?_
    rintro j ⟨g1,g2,g3⟩;by_cases hj:j<r.body.length
    ·by_cases hk:r.body[j].kind=1
     ·have hy:=yesL_yes hj hk;repeat' (first|refine zr ?_|(refine zm ?_ ?_<;>intro hg)|(exfalso;omega))
      refine ak (ai (k':=3) (L':=[(0,.loc 0 0),(1,.d (.int .i64 j)),(2,.d (.slice 1 ((bq e1).map aq))),(3,.d (.slice 1 ((bx e1).map cu))),(8,.loc 2 0),(9,.d (.int .i64 0))]) (H':=(2,litB r.body[j])::rh r S out false) id ⟨rfl,rfl,rfl,rfl,rfl,rfl,trivial⟩ ⟨rfl,rfl,rfl,trivial⟩ rfl rfl rfl rfl rfl rfl) ?_;have hlk:=hok.lit _ (Aj hj);have htl:=hok.tlen _ (Aj hj);have hrec:=ih (j+1) (by omega) (by omega);unfold FromOk at hrec;have hfm:ysW S r.body e1 (re r.body i)=S.flatMap (gW (ed S r.body (re r.body (j+1))) r.body[j] e1):=by rw [g3,hy];exact litW_yes hk
      rw [hfm];clear hfm hy g3;generalize ed S r.body (re r.body (j+1))=go at hrec ⊢;generalize r.body[j]=l at hk hlk htl ⊢;have ls:(S.map ae).length=S.length:=Aa _;refine ag (ι:=Nat) (λk=>⟨3,[(0,.loc 0 0),(1,.d (.int .i64 j)),(2,.d (.slice 1 ((bq e1).map aq))),(3,.d (.slice 1 ((bx e1).map cu))),(8,.loc 2 0),(9,.d (.int .i64 k))],(2,litB l)::rh r S (ou ((S.take k).flatMap (gW go l e1)) (out,false)).1 (ou ((S.take k).flatMap (gW go l e1)) (out,false)).2⟩)
       (λk=>k<=S.length) (λk=>S.length-k) 0 (Ak _) (ai id ⟨rfl,rfl,rfl,rfl,rfl,rfl,trivial⟩ (by rw [List.take_zero,Ht,tg _ ho];exact⟨rfl,rfl,rfl,trivial⟩) rfl rfl rfl rfl rfl rfl) ?_
      intro k hks;have hok1:=addW_len ((S.take k).flatMap (gW go l e1)) (out,false) ho;have hwhole:ou (S.flatMap (gW go l e1)) (out,false)=ou ((S.drop k).flatMap (gW go l e1)) (ou ((S.take k).flatMap (gW go l e1)) (out,false)):=by rw [<- addW_app _ _ _ ho,<- Di,Ds]
      have hstep:∀ hkl:k<S.length,ou ((S.take (k+1)).flatMap (gW go l e1)) (out,false)=ou (gW go l e1 S[k]) (ou ((S.take k).flatMap (gW go l e1)) (out,false)):=λhkl=>by rw [An hkl,Di,addW_app _ _ _ ho];simp
      generalize hst:ou ((S.take k).flatMap (gW go l e1)) (out,false)=st at hok1 hwhole hstep ⊢;obtain⟨o2,m2⟩:=st;dsimp only at hok1 ⊢;clear hst;cases m2 with
      | true =>
       rw [hwhole,addW_many];repeat' (first|refine zs ?_|(refine zm ?_ ?_<;>intro hg)|(exfalso;omega))
       all_goals exact⟨.inr rfl,_,rfl,id,2,.tup [],rh r S o2 true,rfl,⟨rfl,rfl,trivial⟩,rfl,rfl,rfl,rfl,rfl,rfl,rfl,rfl,rfl⟩
      | false =>
       by_cases hkl:k<S.length
       ·have hstep:=hstep hkl;have hxf:=hok.facts _ (Aj hkl);have hxa:=hlk.facts hk _ (Aj hkl);repeat' ((fail_if_success (apply eo 14));(first|refine zs ?_|(refine zm ?_ ?_<;>intro hg)|fail))
        all_goals try (exfalso;omega)
        refine ak (ai (k':=4) (L':=[(0,.loc 0 0),(1,.d (.int .i64 j)),(2,.d (.slice 1 ((bq e1).map aq))),(3,.d (.slice 1 ((bx e1).map cu))),(8,.loc 2 0),(9,.d (.int .i64 k)),(10,.loc 3 0)]) (H':=(3,fctB S[k])::(2,litB l)::rh r S o2 false) id ⟨rfl,rfl,rfl,rfl,rfl,rfl,rfl,trivial⟩ ⟨rfl,rfl,rfl,rfl,trivial⟩ rfl rfl rfl rfl rfl rfl) ?_;generalize S[k]=x at hstep hxf hxa ⊢;have lxa:(x.args.map aq).length=x.args.length:=Aa _;have llt:(l.terms.map av).length=l.terms.length:=Aa _;by_cases hp:x.pred=l.pred
        ·have hxl:=hxa hp;repeat' (first|(apply x5;exact rfl;exact rfl;exact rfl;exact rfl;exact rfl;exact rfl;exact rfl;exact rfl)|(first|refine zs ?_|(refine zm ?_ ?_<;>intro hg)|fail))
         all_goals try (exfalso;omega)
         refine ag (ι:=Nat×Bool×RE) (λz=>⟨6,[(0,.loc 0 0),(1,.d (.int .i64 j)),(2,.d (.slice 1 ((bq e1).map aq))),(3,.d (.slice 1 ((bx e1).map cu))),(8,.loc 2 0),(9,.d (.int .i64 k)),(10,.loc 3 0),(11,.row 4),(12,.row 5),(13,.d (.bool z.2.1)),(14,.d (.int .i64 z.1))],(5,.row 4 1 ((bx z.2.2).map cu))::(4,.row 3 1 ((bq z.2.2).map aq))::(3,fctB x)::(2,litB l)::rh r S o2 false⟩)
          (λz=>z.1<=l.terms.length/\z.2.2.length=e1.length/\o6 z.2.2/\(z.2.1=true->cw e1 l.terms x.args=cw z.2.2 (l.terms.drop z.1) (x.args.drop z.1))/\(z.2.1=false->cw e1 l.terms x.args=none)) (λz=>l.terms.length-z.1) (0,true,e1) ⟨Ak _,rfl,hn1,λ_=>rfl,λh=>by cases h⟩
          (er (λj=>match j with|4=>5|5=>7|j=>j)) ?_
         rintro⟨a,ok,ej⟩ ⟨f1,f2,f3,f4,f5⟩;dsimp only at f1 f2 f3 f4 f5 ⊢;have lj:((bq ej).map aq).length=e1.length:=by rw [Aa,dx,f2]
         have lk:((bx ej).map cu).length=e1.length:=by rw [Aa,cx,f2]
         cases ok with
         | false =>
          have hm:=f5 rfl;have hg0:gW go l e1 x=[]:=by unfold gW;rw [if_pos hp,hm]
          rw [hg0,tg _ hok1] at hstep;repeat' (first|refine zs ?_|(refine zm ?_ ?_<;>intro hg)|(exfalso;omega))
          all_goals exact⟨k+1,hkl,ai id ⟨rfl,rfl,rfl,rfl,rfl,rfl,trivial⟩ (by rw [hstep];exact⟨rfl,rfl,rfl,trivial⟩) rfl rfl rfl rfl rfl rfl,by omega⟩
         | true =>
          have hm:=f4 rfl;by_cases ha:a<l.terms.length
          ·have hta:=hlk.terms _ (Aj ha);rw [Am ha,Am (show a<x.args.length by omega),cw] at hm;have htn:=hok.nums;have hax:a<x.args.length:=by omega
           have hyn:=hxf _ (Aj hax);by_cases hv:l.terms[a].var<0
           ·have hvo:vOf ej l.terms[a]=some l.terms[a].n:=by unfold vOf;rw [if_pos hv]
            rw [hvo] at hm;have hm:cw e1 l.terms x.args=if l.terms[a].n=x.args[a]'hax then cw ej (l.terms.drop (a+1)) (x.args.drop (a+1)) else none:=hm
            repeat' (first|refine zs ?_|(refine zm ?_ ?_<;>intro hg)|(exfalso;omega))
            exact⟨(a+1,decide (l.terms[a].n=x.args[a]'hax),ej),⟨by dsimp only;omega,f2,f3,λh=>by rw [hm,if_pos (of_decide_eq_true h)],λh=>by rw [hm,if_neg (of_decide_eq_false h)]⟩,er id,by show l.terms.length-(a+1)<l.terms.length-a;omega⟩
           ·unfold okT at hta;have hlt:l.terms[a].var.toNat<ej.length:=by omega
            have hvo:vOf ej l.terms[a]=ej[l.terms[a].var.toNat]:=by unfold vOf;rw [if_neg hv,A6,Ad hlt];rfl
            have hho:(bx ej)[l.terms[a].var.toNat]'(by rw [cx];exact hlt)=(ej[l.terms[a].var.toNat]).isSome:=by unfold bx;rw [Dh]
            have hoo:(bq ej)[l.terms[a].var.toNat]'(by rw [dx];exact hlt)=(ej[l.terms[a].var.toNat]).getD 0:=by unfold bq;rw [Dh]
            rw [hvo] at hm;cases hc:ej[l.terms[a].var.toNat] with
            | some z =>
             rw [hc] at hm hho hoo;have hm:cw e1 l.terms x.args=if z=x.args[a]'hax then cw ej (l.terms.drop (a+1)) (x.args.drop (a+1)) else none:=hm
             have hho:(bx ej)[l.terms[a].var.toNat]'(by rw [cx];exact hlt)=true:=hho;have hoo:(bq ej)[l.terms[a].var.toNat]'(by rw [dx];exact hlt)=z:=hoo;repeat' ((fail_if_success (apply bk 21));(first|refine zs ?_|(refine zm ?_ ?_<;>intro hg)|fail))
             all_goals try (exfalso;omega)
             all_goals try (exfalso;rw [hho] at hg;cases hg;done)
             exact⟨(a+1,decide (z=x.args[a]'hax),ej),⟨by dsimp only;omega,f2,f3,λh=>by rw [hm,if_pos (of_decide_eq_true h)],λh=>by rw [hm,if_neg (of_decide_eq_false h)]⟩,ai id ⟨rfl,rfl,rfl,rfl,rfl,rfl,rfl,rfl,rfl,by rw [<- hoo];rfl,rfl,trivial⟩ ⟨rfl,rfl,rfl,rfl,rfl,rfl,trivial⟩ rfl rfl rfl rfl rfl rfl,by show l.terms.length-(a+1)<l.terms.length-a;omega⟩
            | none =>
             rw [hc] at hm hho hoo;have hm:cw e1 l.terms x.args=cw (ej.set l.terms[a].var.toNat (some (x.args[a]'hax))) (l.terms.drop (a+1)) (x.args.drop (a+1)):=hm;have hho:(bx ej)[l.terms[a].var.toNat]'(by rw [cx];exact hlt)=false:=hho;repeat' ((fail_if_success (apply bk 21));(fail_if_success (apply bk 25));(first|refine zs ?_|(refine zm ?_ ?_<;>intro hg)|fail))
             all_goals try (exfalso;omega)
             all_goals try (exfalso;rw [hho] at hg;cases hg;done)
             have hpm:l.terms[a].var.toNat<((bq ej).map aq).length/\∀ y∈(bq ej).map aq,y.length=1:=⟨by rw [Aa,dx];exact hlt,λy hy=>by obtain⟨z,_,rfl⟩:=List.mem_map.1 hy;rfl⟩
             have hpk:l.terms[a].var.toNat<((bx ej).map cu).length/\∀ y∈(bx ej).map cu,y.length=1:=⟨by rw [Aa,cx];exact hlt,λy hy=>by obtain⟨z,_,rfl⟩:=List.mem_map.1 hy;rfl⟩
             repeat' (first|refine zs ?_|fail)
             have o1:=outE_set ej l.terms[a].var.toNat (x.args[a]'hax);have o2:=hasE_set ej l.terms[a].var.toNat (x.args[a]'hax);exact⟨(a+1,true,ej.set l.terms[a].var.toNat (some (x.args[a]'hax))),⟨by dsimp only;omega,by dsimp only;rw [Ba];exact f2,numE_set f3 (numB_iff.2 hyn),λ_=>hm,λh=>by cases h⟩,ai id ⟨rfl,rfl,rfl,rfl,rfl,rfl,rfl,rfl,rfl,rfl,rfl,trivial⟩ ⟨by rw [o2,C3];rfl,by rw [o1,C3];rfl,rfl,rfl,rfl,rfl,trivial⟩ rfl rfl rfl rfl rfl rfl,by show l.terms.length-(a+1)<l.terms.length-a;omega⟩
          ·rw [As (by omega)] at hm;have hm:cw e1 l.terms x.args=some ej:=hm;have hg0:gW go l e1 x=go ej:=by unfold gW;rw [if_pos hp,hm]
           rw [hg0] at hstep;have wr:=hrec ej o2 false (by rw [f2];exact hok) f3 hok1;repeat' ((fail_if_success (apply eo 27));(first|refine zs ?_|(refine zm ?_ ?_<;>intro hg)|fail))
           all_goals try (exfalso;omega)
           refine mc (bh 189 rfl rfl rfl) ?_;refine mc (bh 190 rfl rfl rfl) ?_;(refine bg id (wr) rfl rfl rfl rfl ⟨rfl,rfl,trivial⟩ rfl rfl rfl rfl rfl rfl ?_ ?_)
           ·rintro k2 res H2 ⟨rfl,rfl,rfl⟩;exact⟨rfl,rfl⟩
           rintro k2 res H2 ⟨rfl,rfl,rfl⟩;change DS _ _ _ _ _ _ _ _;repeat' (first|refine zs ?_|fail)
           exact⟨k+1,hkl,ai (λj=>match j with|1=>7|j=>j) ⟨rfl,rfl,rfl,rfl,rfl,rfl,trivial⟩ (by rw [hstep];exact⟨rfl,rfl,rfl,trivial⟩) rfl rfl rfl rfl rfl rfl,by omega⟩
        ·have hg0:gW go l e1 x=[]:=by unfold gW;rw [if_neg hp]
         rw [hg0,tg _ hok1] at hstep;repeat' (first|refine zs ?_|(refine zm ?_ ?_<;>intro hg)|(exfalso;omega))
         all_goals try (exfalso;exact hg hp)
         exact⟨k+1,hkl,ai id ⟨rfl,rfl,rfl,rfl,rfl,rfl,trivial⟩ (by rw [hstep];exact⟨rfl,rfl,rfl,trivial⟩) rfl rfl rfl rfl rfl rfl,by omega⟩
       ·rw [hwhole,As (by omega),Ht,tg _ hok1];repeat' (first|refine zs ?_|(refine zm ?_ ?_<;>intro hg)|(exfalso;omega))
        all_goals exact⟨.inr rfl,_,rfl,id,2,.tup [],rh r S o2 false,rfl,⟨rfl,rfl,trivial⟩,rfl,rfl,rfl,rfl,rfl,rfl,rfl,rfl,rfl⟩
     ·have hy:=yesL_skip hj hk;repeat' (first|refine zr ?_|(refine zm ?_ ?_<;>intro hg)|(exfalso;omega))
      exact⟨j+1,⟨by omega,by omega,g3.trans hy⟩,er id,by omega⟩
    ·have hy:=yesL_end (Nat.le_of_not_lt hj);have hfm:ysW S r.body e1 (re r.body i)=[bq e1]:=by rw [g3,hy];rfl
     rw [hfm];have lout:(out.map ey).length=out.length:=Aa _;by_cases h2k:out.length=2000
     ·rw [addW_full _ h2k];repeat' (first|refine zr ?_|(refine zm ?_ ?_<;>intro hg)|(exfalso;omega))
      exact⟨.inl rfl,_,rfl,kp id 2 (.tup []) (rh r S out true) ⟨rfl,rfl,rfl⟩⟩
     ·rw [addW_one _ (by omega)];repeat' (first|refine zr ?_|(refine zm ?_ ?_<;>intro hg)|(exfalso;omega))
      exact⟨.inl rfl,_,rfl,λj=>match j with|1=>2|j=>j,2,.tup [],rh r S (out++[bq e1]) false,rfl,⟨rfl,by rw [Ar];rfl,trivial⟩,rfl,rfl,rfl,rfl,rfl,rfl,rfl,rfl,rfl⟩
theorem from_fn (r:Rul) (S:List Fct) (hS:S.length<=4398046511104):∀ (n i:Nat),r.body.length-i=n->i<=r.body.length->FromOk r S i:=by
 intro n;induction n using Nat.strongRecOn with
 | ind n ih=>exact λi hn hi=>from_step r S hS i hi λj h1 h2=>ih (r.body.length-j) (by omega) j rfl h2
def SortW (l:List (List Int)):Prop:=l.Pairwise λa b=>du a b<=0
theorem r6 {a b c:List Int} (h:du a b<=0) (g:du b c<=0):du a c<=0:=by
 by_cases h1:du a b=0
 ·rw [xd h1];exact g
 ·by_cases g1:du b c=0
  ·rw [<- xd g1];exact h
  ·have:=ua (l:=a) (m:=b) (n:=c) (by omega) (by omega)
   omega
theorem ordL_antisymm {a b:List Int} (h:du a b<=0) (g:du b a<=0):a=b:=by
 rw [ko] at g;exact xd (by omega)
theorem sortW_unique:∀ {a b:List (List Int)},SortW a->SortW b->a.Perm b->a=b
 | [],b,_,_,h=>by rw [List.nil_perm.1 h]
 | x::a,b,ha,hb,h=>by
  match b,h,hb with
  | [],h,_=>simp at h
  | y::b,h,hb =>
   obtain⟨a1,a2⟩:=List.pairwise_cons.1 ha;obtain⟨b1,b2⟩:=List.pairwise_cons.1 hb;have hxy:x=y:=by
    rcases List.mem_cons.1 (h.mem_iff.1 Ac) with h1|h1
    ·exact h1
    ·rcases List.mem_cons.1 (h.mem_iff.2 (Ac (a:=y) (l:=b))) with h2|h2
     ·exact h2.symm
     ·exact ordL_antisymm (a1 y h2) (b1 x h1)
   subst hxy;rw [sortW_unique a2 b2 (List.perm_cons x |>.1 h)]
theorem tq {a b:List (List Int)} (ha:a.Nodup) (hb:b.Nodup) (h:∀ x,x∈a↔x∈b):a.Perm b:=(List.perm_ext_iff_of_nodup ha hb).2 h
def insOk (o:List (List Int)) (k i:Nat):Prop:=∀ (p q:Nat) (a b:List Int),p<q->q<=i->q≠k->o[p]?=some a->o[q]?=some b->du a b<=0
def swapW (o:List (List Int)) (k:Nat) (a b:List Int):List (List Int):=(o.set k a).set (k-1) b
theorem swapW_get {o:List (List Int)} {k:Nat} {a b:List Int} (hk:0<k) (hl:k<o.length) (p:Nat):(swapW o k a b)[p]?=if p=k-1 then some b else if p=k then some a else o[p]?:=by
 unfold swapW;by_cases h1:p=k-1
 ·subst h1;rw [if_pos rfl,B4 (by rw [Ba];omega)]
 ·rw [if_neg h1,Ce (Ne.symm h1)];by_cases h2:p=k
  ·subst h2;rw [if_pos rfl,B4 hl]
  ·rw [if_neg h2,Ce (Ne.symm h2)]
theorem insOk_swap {o:List (List Int)} {k i:Nat} {a b:List Int} (hk:0<k) (hl:k<o.length) (hki:k<=i) (ha:o[k-1]?=some a) (hb:o[k]?=some b) (hlt:du b a<0) (h:insOk o k i):insOk (swapW o k a b) (k-1) i:=by
 intro p q x y hpq hqi hqk hx hy;rw [swapW_get hk hl] at hx hy;rw [if_neg hqk] at hy;by_cases q1:q=k
 ·rw [if_pos q1,Option.some.injEq] at hy;subst hy;by_cases p1:p=k-1
  ·rw [if_pos p1,Option.some.injEq] at hx;subst hx;omega
  ·rw [if_neg p1,if_neg (by omega)] at hx;exact h p (k-1) x a (by omega) (by omega) (by omega) hx ha
 ·rw [if_neg q1] at hy;by_cases p1:p=k-1
  ·rw [if_pos p1,Option.some.injEq] at hx;subst hx;exact h k q b y (by omega) hqi (by omega) hb hy
  ·rw [if_neg p1] at hx;by_cases p2:p=k
   ·rw [if_pos p2,Option.some.injEq] at hx;subst hx;exact h (k-1) q a y (by omega) hqi (by omega) ha hy
   ·rw [if_neg p2] at hx;exact h p q x y hpq hqi (by omega) hx hy
theorem swapW_perm {o:List (List Int)} {k:Nat} {a b:List Int} (hk:0<k) (ha:o[k-1]?=some a) (hb:o[k]?=some b):(swapW o k a b).Perm o:=by
 obtain⟨k,rfl⟩:∃ j,k=j+1:=⟨k-1,by omega⟩;simp only [Nat.add_sub_cancel] at ha;obtain⟨h1,h1'⟩:=List.getElem?_eq_some_iff.1 ha;obtain⟨h2,h2'⟩:=List.getElem?_eq_some_iff.1 hb;have ho:o=o.take k++a::b::o.drop (k+2):=by
  rw [<- h1',<- h2',<- Am h2,<- Am h1,Ds]
 have hs:swapW o (k+1) a b=o.take k++b::a::o.drop (k+2):=by
  apply Ci;intro p;rw [swapW_get hk h2];have ltk:(o.take k).length=k:=by rw [Aq];omega
  rcases Nat.lt_trichotomy p k with h|h|h
  ·rw [if_neg (by omega),if_neg (by omega),List.getElem?_append_left (by omega),List.getElem?_take_of_lt h]
  ·subst h;rw [if_pos (by omega),A4 (by omega),ltk,Nat.sub_self];rfl
  ·rw [if_neg (by omega),A4 (by omega),ltk];by_cases hq:p=k+1
   ·subst hq;rw [if_pos rfl,show k+1-k=1 by omega];rfl
   ·rw [if_neg hq,show p-k=(p-(k+2))+2 by omega];simp only [List.getElem?_cons_succ,List.getElem?_drop];congr 1;omega
 rw [hs];conv=>rhs;rw [ho]
 exact List.Perm.append_left _ (List.Perm.swap _ _ _)
theorem insOk_done {o:List (List Int)} {k i:Nat} (h:insOk o k i) (hk:k=0∨∃ a b,0<k/\o[k-1]?=some a/\o[k]?=some b/\¬ du b a<0):∀ (p q:Nat) (a b:List Int),p<q->q<=i->o[p]?=some a->o[q]?=some b->du a b<=0:=by
 intro p q x y hpq hqi hx hy;by_cases hq:q=k
 ·subst hq;rcases hk with hk|⟨a,b,hk,ha,hb,hn⟩
  ·omega
  ·rw [hb,Option.some.injEq] at hy;subst hy;have h1:du a b<=0:=by rw [ko];omega
   by_cases hp:p=q-1
   ·subst hp;rw [ha,Option.some.injEq] at hx;subst hx;exact h1
   ·exact r6 (h p (q-1) x a (by omega) (by omega) (by omega) hx ha) h1
 ·exact h p q x y hpq hqi hq hx hy
def vv (o:List (List Int)) (i:Nat):Prop:=∀ (p q:Nat) (a b:List Int),p<q->q<i->o[p]?=some a->o[q]?=some b->du a b<=0
theorem sortedTo_ins {o:List (List Int)} {i:Nat} (h:vv o i):insOk o i i:=λp q a b h1 h2 h3=>h p q a b h1 (by omega)
theorem sortedTo_all {o:List (List Int)} (h:vv o o.length):SortW o:=by
 unfold SortW;rw [List.pairwise_iff_getElem];intro i j hi hj hij;exact h i j _ _ hij hj (Ad hi) (Ad hj)
def e8 (arity:List Int) (x:Fct):Int :=
 if inR x.pred 0 ((arity.length:Int)-1)=false then 5
 else if (x.args.length:Int)≠arity.getD x.pred.toNat 0 then 1
 else if x.args.any (λn=>!numB n) then 3
 else 0
structure FctOk (arity:List Int) (x:Fct):Prop where
 pred:0<=x.pred/\x.pred<arity.length
 len:(x.args.length:Int)=arity.getD x.pred.toNat 0
 nums:∀ n∈x.args,-1000000<=n/\n<=1000000
theorem numB_in {n:Int} (h:numB n=true):-1000000<=n/\n<=1000000:=by unfold numB inR at h;simpa using h
theorem factE_ok {arity:List Int} {x:Fct} (h:e8 arity x=0):FctOk arity x:=by
 unfold e8 at h;split at h;· cases h
 rename_i h1;split at h;· cases h
 rename_i h2;split at h;· cases h
 rename_i h3;refine⟨by unfold inR at h1;simp at h1;omega,by simpa using h2,λn hn=>?_⟩
 have h3':x.args.any (λn=>!numB n)=false:=by simpa using h3
 rw [List.any_eq_false] at h3';have:=h3' n hn
 exact numB_in (by simpa using this)
theorem im {α:Type} {f:α->Int}:∀ {l:List α},bm f l=0->∀ x∈l,f x=0
 | [],_,_,h=>by simp at h
 | y::l,h,x,hx=>by
  unfold bm at h
  split at h
  ·rename_i h1;exact absurd h h1
  ·rename_i h1
   rcases List.mem_cons.1 hx with rfl|hx
   ·exact Bc h1
   ·exact im h x hx
theorem firstI_all0 {f:Nat->Int}:∀ {k i:Nat},jw f i k=0->∀ j,i<=j->j<i+k->f j=0
 | 0,_,_,j,h1,h2=>by omega
 | k+1,i,h,j,h1,h2=>by
  unfold jw at h
  split at h
  ·rename_i h3;exact absurd h h3
  ·rename_i h3
   by_cases hj:j=i
   ·subst hj;exact Bc h3
   ·exact firstI_all0 h j (by omega) (by omega)
theorem termE_zero {vars:Int} {t:Trm} (h:vb vars t=0):t.var<vars/\-1<=t.var/\(-1000000<=t.n/\t.n<=1000000):=by
 unfold vb at h;split at h;· cases h
 rename_i h1;split at h;· cases h
 rename_i h2;have h1':inR t.var (-1) (vars-1)=true:=by simpa using h1
 have h3:numB t.n=true:=by
  cases hn:numB t.n with
  | true=>rfl
  | false=>exact absurd (.inl hn) h2
 unfold inR at h1';simp at h1';exact⟨by omega,by omega,numB_in h3⟩
structure RulR (arity:List Int) (r:Rul):Prop where
 pred:0<=r.pred/\r.pred<arity.length
 tlen:(r.terms.length:Int)=arity.getD r.pred.toNat 0
 vars:0<=r.vars/\r.vars<=8
 terms:∀ t∈r.terms,t.var<r.vars/\-1<=t.var/\(-1000000<=t.n/\t.n<=1000000)
 fold:0<=r.fold/\r.fold<=4
 folded:r.fold≠0->0<r.terms.length/\0<r.body.length
 body:r.body.length<=4
 lits:∀ l∈r.body,kz arity r.vars l=0
 safe:rk r=true
theorem ruleE_right {arity:List Int} {r:Rul} (h:nk arity r=0):RulR arity r:=by
 unfold nk at h;split at h;· cases h
 rename_i h1;split at h;· cases h
 rename_i h2;split at h;· cases h
 rename_i h3;split at h
 ·rename_i h4;exact absurd h h4
 rename_i h4;split at h;· cases h
 rename_i h5;split at h;· cases h
 rename_i h6;split at h;· cases h
 rename_i h7;split at h
 ·rename_i h8;exact absurd h h8
 rename_i h8;split at h;· cases h
 rename_i h9;have h1':inR r.pred 0 ((arity.length:Int)-1)=true:=by simpa using h1
 have h3':inR r.vars 0 8=true:=by simpa using h3
 have h5':inR r.fold 0 4=true:=by simpa using h5
 unfold inR at h1' h3' h5';simp at h1' h3' h5';refine⟨by omega,by simpa using h2,by omega,λt ht=>?_,by omega,λhf=>?_,by omega,λl hl=>?_,by simpa using h9⟩
 ·have:bm (vb r.vars) r.terms=0:=by unfold nr at h4;simpa using h4
  exact termE_zero (im this t ht)
 ·have:¬ (r.terms.length=0∨r.body.length=0):=λhc=>h6 ⟨hf,hc⟩
  omega
 ·have:bm (kz arity r.vars) r.body=0:=by simpa using h8
  exact im this l hl
theorem progE_rule {nameB:ByteArray->Bool} {p:Prg} (h:dc nameB p=0):(∀ r∈p.rules,RulR p.arity r)/\(∀ i,0<=p.arity.getD i 0/\p.arity.getD i 0<=3)/\p.arity.length<=10/\p.rules.length<=12:=by
 unfold dc at h;split at h;· cases h
 rename_i h1;split at h;· cases h
 rename_i h2;split at h
 ·rename_i h3;exact absurd h h3
 rename_i h3;refine⟨λr hr=>ruleE_right (im h r hr),λi=>?_,by omega,by omega⟩
 by_cases hi:i<p.names.length
 ·have h3':jw (qr nameB p) 0 p.names.length=0:=by simpa using h3
  have:=firstI_all0 h3' i (Ak _) (by omega)
  unfold qr at this;split at this;· cases this
  rename_i h4;have h4':inR (p.arity.getD i 0) 0 3=true:=by simpa using h4
  unfold inR at h4';simp only [Bool.and_eq_true,decide_eq_true_eq] at h4';exact h4'
 ·rw [A6,List.getElem?_eq_none (by omega)];exact⟨by simp,by simp⟩
theorem un {arity:List Int} {vars:Int} {l:Ltl} (h:kz arity vars l=0):(1<=l.kind/\l.kind<=4)/\opB l.kind l.op=true/\((l.kind=1∨l.kind=2)->(0<=l.pred/\l.pred<arity.length)/\(l.terms.length:Int)=arity.getD l.pred.toNat 0)/\(¬ (l.kind=1∨l.kind=2)->l.pred=0/\(l.terms.length:Int)=l.kind-1)/\∀ t∈l.terms,t.var<vars/\-1<=t.var/\(-1000000<=t.n/\t.n<=1000000):=by
 unfold kz at h;split at h;· cases h
 rename_i h1;split at h;· cases h
 rename_i h2;have h1':inR l.kind 1 4=true:=by simpa using h1
 unfold inR at h1';simp at h1';have h2':opB l.kind l.op=true:=by simpa using h2
 split at h
 ·rename_i hk;split at h;· cases h
  rename_i h3;split at h;· cases h
  rename_i h4;have h3':inR l.pred 0 ((arity.length:Int)-1)=true:=by simpa using h3
  unfold inR at h3';simp at h3';exact⟨by omega,h2',λ_=>⟨by omega,by simpa using h4⟩,λhn=>absurd hk hn,λt ht=>termE_zero (im h t ht)⟩
 ·rename_i hk;split at h;· cases h
  rename_i h3;refine⟨by omega,h2',λhc=>absurd hc hk,λ_=>?_,λt ht=>termE_zero (im h t ht)⟩
  exact⟨Bc λhc=>h3 (.inl hc),Bc λhc=>h3 (.inr hc)⟩
theorem lit_okL {arity:List Int} {vars:Int} {l:Ltl} {S:List Fct} (h:kz arity vars l=0) (hv:0<=vars) (hS:∀ x∈S,FctOk arity x):okL S vars.toNat l:=by
 obtain⟨h1,h2,h3,h4,h5⟩:=un h;refine⟨h1,λt ht=>?_,λhk=>?_,λhk=>?_,λhk x hx hp=>?_⟩
 ·have:=h5 t ht;unfold okT;omega
 ·have:=h4 (by omega);omega
 ·have:=h4 (by omega);omega
 ·have g1:=(h3 (.inl hk)).2;have g2:=(hS x hx).len;rw [hp] at g2;omega
theorem setT_into {bs cs:List Bool} {t:Trm} (h:leB bs cs) (ht:isT cs t=true):leB (ji bs t) cs:=by
 refine⟨(v7 bs t).trans h.1,λi hi=>?_⟩
 unfold ji at hi;split at hi
 ·exact h.2 i hi
 ·rename_i hv;by_cases hq:t.var.toNat=i
  ·subst hq;unfold isT at ht;rw [decide_eq_false hv,Bool.false_or] at ht;exact ht
  ·rw [A6,Ce hq,<- A6] at hi;exact h.2 i hi
theorem setTs_into {cs:List Bool}:∀ {l:List Trm} {bs:List Bool},leB bs cs->(∀ t∈l,isT cs t=true)->leB (l.foldl ji bs) cs
 | [],_,h,_=>h
 | t::l,_,h,ht=>setTs_into (l:=l) (setT_into h (ht t (Ac ..))) λx hx=>ht x (Ag _ hx)
theorem bLit_into {body:List Ltl} {bs cs:List Bool} {l:Ltl} (hl:l∈body) (h:leB bs cs) (hc:ze body cs):leB (l4 bs l) cs:=by
 unfold l4;split
 ·rename_i hf;exact setTs_into h (hc l hl (ux h hf))
 ·exact h
theorem bRound_into {body:List Ltl} {cs:List Bool} (hc:ze body cs):∀ (ls:List Ltl) {bs:List Bool},(∀ l∈ls,l∈body)->leB bs cs->leB (iv ls bs) cs
 | [],_,_,h=>h
 | l::ls,_,hs,h=>bRound_into hc ls (λx hx=>hs x (Ag _ hx)) (bLit_into (hs l (Ac ..)) h hc)
theorem bIter_into {body:List Ltl} {cs:List Bool} (hc:ze body cs):∀ (n:Nat) {bs:List Bool},leB bs cs->leB (fk body n bs) cs
 | 0,_,h=>h
 | n+1,_,h=>bIter_into hc n (bRound_into hc body (λ_ hl=>hl) h)
theorem safe_Bd {r:Rul} (h:rk r=true):Bd r.body (Ap r.vars.toNat false):=by
 intro cs h1 h2 v hv;refine (bIter_into h2 (r.body.length+1) h1).2 v ?_;unfold rk u6 at h;rw [List.all_eq_true] at h;have hl:v<(fk r.body (r.body.length+1) (Ap r.vars.toNat false)).length:=by rw [tf,h1.1];exact hv
 rw [A6,Ad hl];exact h _ (Aj hl)
abbrev e0 (v:Nat):RE:=Ap v none
theorem hasE_e0 (v:Nat):bx (e0 v)=Ap v false:=by unfold bx e0;rw [Dm];rfl
theorem outE_e0 (v:Nat):bq (e0 v)=Ap v 0:=by unfold bq e0;rw [Dm];rfl
def jz (body:List Ltl):List Ltl:=body.filter λl=>decide (l.kind=1)
theorem mh {S:List Fct} {v:Nat} {body:List Ltl} (hS:S.Nodup) (hok:∀ l∈body,okL S v l) (hB:Bd body (Ap v false)) :
  (ix S body.length body (e0 v)).Perm (ed S body (jz body) (e0 v))/\(ed S body (jz body) (e0 v)).Nodup/\(∀ a,a∈ed S body (jz body) (e0 v)↔a.length=v/\∀ l∈body,holdE S l a=true):=by
 have hl:(e0 v).length=v:=List.length_replicate;have hok':∀ l∈body,okL S (e0 v).length l:=λl h=>by rw [hl];exact hok l h
 have hB':Bd body (bx (e0 v)):=by rw [hasE_e0];exact hB
 obtain⟨g1,g2⟩:=fromE_spec S hS body (jz body) (e0 v) (λl h=>⟨(List.mem_filter.1 h).1,of_decide_eq_true (List.mem_filter.1 h).2⟩) hok' hB' (λl h h1=>.inl (List.mem_filter.2 ⟨h,decide_eq_true h1⟩));have g3:=findE_mem S body.length body (e0 v) (Ah _) hok' hB';have g4:=findE_nodup S hS body.length body (e0 v) (Ah _) hok' hB';refine⟨tq g4 g2 λa=>(g3 a).trans (g1 a).symm,g2,λa=>(g1 a).trans (and_congr_left λ_=>?_)⟩
 unfold kf;rw [hl];refine⟨λh=>h.1,λh=>⟨h,λu x hx=>?_⟩⟩
 unfold e0 at hx;rw [List.getElem?_replicate] at hx;split at hx<;>simp at hx
def rj (S:List Fct) (v:Nat) (body:List Ltl):List (List Int):=(ed S body (jz body) (e0 v)).mergeSort λa b=>decide (du a b<=0)
theorem jg (S:List Fct) (v:Nat) (body:List Ltl):(rj S v body).Perm (ed S body (jz body) (e0 v)):=List.mergeSort_perm _ _
theorem waysL_sort (S:List Fct) (v:Nat) (body:List Ltl):SortW (rj S v body):=by
 have:=List.pairwise_mergeSort (le:=λa b=>decide (du a b<=0)) (λa b c h g=>decide_eq_true (r6 (of_decide_eq_true h) (of_decide_eq_true g))) (λa b=>by
  rw [Bool.or_eq_true,decide_eq_true_eq,decide_eq_true_eq,ko b a];omega) (ed S body (jz body) (e0 v))
 exact this.imp λh=>of_decide_eq_true h
theorem vo {S:List Fct} {v:Nat} {body:List Ltl} {o:List (List Int)} (h:SortW o) (hp:o.Perm (ed S body (jz body) (e0 v))):o=rj S v body :=
 sortW_unique h (waysL_sort S v body) (hp.trans (jg S v body).symm)
abbrev pfB (r:Rul) (S:List Fct) (o:Nat):HB:=.blk 168 [.d (.int .i64 r.pred),.d (.slice 2 (r.terms.map av)),.d (.int .i64 r.fold),.d (.slice 4 (r.body.map ay)),.d (.int .i64 r.vars),.d (.slice 2 (S.map ae)),.row 1,.row 2,.d (.int .i64 2000),.row o]
abbrev pfH (r:Rul) (S:List Fct) (e:RE) (out:List (List Int)):Hp:=[(0,pfB r S 3),(1,.row 3 1 ((bq e).map aq)),(2,.row 4 1 ((bx e).map cu)),(3,.row 22 1 (out.map ey))]
theorem value_fn (r:Rul) (S:List Fct) (out:List (List Int)) (e:RE) (t:Trm) (ho:okT e.length t) :
  FnOk false Tryz.prog tab b9 222 [.loc 0 0,elTrm t] 4 4 (pfH r S e out) (λ_ res H=>res = .tup [.d (.int .i64 (vA (bq e) t)),.d (.bool (vOf e t).isSome)]/\H=pfH r S e out):=by
 refine frE Tryz.func222 ?_;intro O w0 E0 β0;have lo:((bq e).map aq).length=e.length:=by rw [Aa,dx]
 have lh:((bx e).map cu).length=e.length:=by rw [Aa,cx]
 unfold okT at ho;by_cases hv:t.var<0
 ·have h1:vA (bq e) t=t.n:=by unfold vA;rw [if_pos hv]
  have h2:(vOf e t).isSome=true:=by unfold vOf;rw [if_pos hv];rfl
  rw [h1,h2];repeat' (first|refine zr ?_|(refine zm ?_ ?_<;>intro hg)|(exfalso;omega))
  exact⟨.inl rfl,_,rfl,kp id 4 _ (pfH r S e out) ⟨rfl,rfl⟩⟩
 ·have hlt:t.var.toNat<e.length:=by omega
  have h1:vA (bq e) t=(bq e)[t.var.toNat]'(by rw [dx];exact hlt):=by unfold vA;rw [if_neg hv,A6,Ad (by rw [dx];exact hlt)];rfl
  have h2:(vOf e t).isSome=(bx e)[t.var.toNat]'(by rw [cx];exact hlt):=by
   unfold vOf bx;rw [if_neg hv,A6,Ad hlt,Dh];rfl
  rw [h1,h2];repeat' (first|refine zr ?_|(refine zm ?_ ?_<;>intro hg)|(exfalso;omega))
  exact⟨.inl rfl,_,rfl,kp id 4 _ (pfH r S e out) ⟨rfl,rfl⟩⟩
theorem values_fn (r:Rul) (S:List Fct) (out:List (List Int)) (e:RE) (l:List Trm) (ho:∀ t∈l,okT e.length t) (hl:l.length<=4398046511104) :
  FnOk false Tryz.prog tab b9 167 [.loc 0 0,.d (.slice 2 (l.map av))] 4 4 (pfH r S e out)
   (λ_ res H=>res=(if l.all (λt=>(vOf e t).isSome) then .tup [.d (.slice 1 ((l.map (vA (bq e))).map aq)),.d (.bool true)] else .tup [.d (.slice 1 []),.d (.bool false)])/\H=pfH r S e out):=by
 refine frE Tryz.func167 ?_;intro O w0 E0 β0;have ll:(l.map av).length=l.length:=Aa _;repeat' ((fail_if_success (apply ip 2));(first|refine zs ?_|fail))
 refine ak (cd (t:=6) 3 1 rfl) ?_;repeat' (first|refine zs ?_|fail)
 refine ag (ι:=Nat) (λi=>⟨5,[(0,.loc 0 0),(1,.d (.slice 2 (l.map av))),(6,.row 4),(11,.d (.slice 2 (l.map av))),(12,.d (.int .i64 l.length)),(13,.d (.int .i64 i))],(4,.row 3 1 (((l.take i).map (vA (bq e))).map aq))::pfH r S e out⟩)
  (λi=>i<=l.length/\(l.take i).all (λt=>(vOf e t).isSome)=true) (λi=>l.length-i) 0 ⟨Ak _,rfl⟩ (ai id ⟨rfl,rfl,rfl,rfl,by rw [<- ll];rfl,rfl,trivial⟩ ⟨rfl,rfl,rfl,rfl,rfl,trivial⟩ rfl rfl rfl rfl rfl rfl) ?_
 rintro i ⟨g1,g2⟩;dsimp only at g1 g2 ⊢;by_cases hi:i<l.length
 ·have w:=value_fn r S out e l[i] (ho _ (Aj hi));have ht:l.take (i+1)=l.take i++[l[i]]:=An hi;repeat' (first|refine zr ?_|(refine zm ?_ ?_<;>intro hg)|(exfalso;omega))
  (refine bg id (w) rfl rfl rfl rfl ⟨rfl,rfl,rfl,rfl,trivial⟩ rfl rfl rfl rfl rfl rfl ?_ ?_)
  ·rintro k2 res H2 ⟨rfl,rfl⟩;exact⟨rfl,rfl⟩
  rintro k2 res H2 ⟨rfl,rfl⟩;change DS _ _ _ _ _ _ _ _;cases hs:(vOf e l[i]).isSome with
  | false =>
   have hall:l.all (λt=>(vOf e t).isSome)=false:=by rw [List.all_eq_false];exact⟨_,Aj hi,by rw [hs];simp⟩
   rw [hall];simp only [B3,if_false];repeat' (first|refine zs ?_|(exfalso;omega))
   refine ak (cr 4 1 rfl) ?_;repeat' (first|refine zr ?_|fail)
   exact⟨.inl rfl,_,rfl,kp id 4 _ (pfH r S e out) ⟨rfl,rfl⟩⟩
  | true =>
   repeat' (first|refine zs ?_|(exfalso;omega))
   exact⟨i+1,⟨hi,by rw [ht,List.all_append,g2];simp [hs]⟩,ai (λj=>match j with|4=>6|j=>j) ⟨rfl,rfl,rfl,rfl,rfl,rfl,trivial⟩ ⟨by rw [ht,Ar,Ar];rfl,rfl,rfl,rfl,rfl,trivial⟩ rfl rfl rfl rfl rfl rfl,by omega⟩
 ·rw [Ai (by omega)] at g2 ⊢;rw [g2,if_pos rfl];repeat' (first|refine zs ?_|(refine zm ?_ ?_<;>intro hg)|(exfalso;omega))
  refine ak (bh 4 rfl rfl rfl) ?_;repeat' (apply c9)
  exact⟨.inl rfl,_,rfl,kp id 4 _ (pfH r S e out) ⟨rfl,rfl⟩⟩
theorem calc_fn (op a b:Int) (ha:-1000000<=a/\a<=1000000) (hb:-1000000<=b/\b<=1000000):Fn 168 [.d (.int .i64 op),.d (.int .i64 a),.d (.int .i64 b)] (λr=>r = .d (.int .i64 (mt op a b))):=by
 refine fqE Tryz.func168 ?_;intro O w0 E0 β0;have hm:-1000000000000<=a*b/\a*b<=1000000000000:=by
  have h1:a.natAbs<=1000000:=by omega
  have h2:b.natAbs<=1000000:=by omega
  have h3:(a*b).natAbs<=1000000*1000000:=by rw [Int.natAbs_mul];exact Nat.mul_le_mul h1 h2
  omega
 unfold mt;by_cases h5:op=5
 ·rw [if_pos h5];repeat' (first|refine zr ?_|(refine zm ?_ ?_<;>intro hg)|(exfalso;omega))
  all_goals exact⟨.inl rfl,_,rfl,rfl,rfl⟩
 ·rw [if_neg h5];by_cases h6:op=6
  ·rw [if_pos h6];repeat' (first|refine zr ?_|(refine zm ?_ ?_<;>intro hg)|(exfalso;omega))
   all_goals exact⟨.inl rfl,_,rfl,rfl,rfl⟩
  ·rw [if_neg h6];repeat' (first|refine zr ?_|(refine zm ?_ ?_<;>intro hg)|(exfalso;omega))
   exact⟨.inl rfl,_,rfl,rfl,rfl⟩
theorem test_fn (op a b:Int):Fn 169 [.d (.int .i64 op),.d (.int .i64 a),.d (.int .i64 b)] (λr=>r = .d (.bool (zo op a b))):=by
 refine fqE Tryz.func169 ?_;intro O w0 E0 β0;unfold zo;by_cases h1:op=1
 ·rw [if_pos h1];repeat' (first|refine zr ?_|(refine zm ?_ ?_<;>intro hg)|(exfalso;omega))
  all_goals exact⟨.inl rfl,_,rfl,rfl,rfl⟩
 ·rw [if_neg h1];by_cases h2:op=2
  ·rw [if_pos h2];repeat' (first|refine zr ?_|(refine zm ?_ ?_<;>intro hg)|(exfalso;omega))
   all_goals exact⟨.inl rfl,_,rfl,rfl,rfl⟩
  ·rw [if_neg h2];by_cases h3:op=3
   ·rw [if_pos h3];repeat' (first|refine zr ?_|(refine zm ?_ ?_<;>intro hg)|(exfalso;omega))
    all_goals exact⟨.inl rfl,_,rfl,rfl,rfl⟩
   ·rw [if_neg h3];repeat' (first|refine zr ?_|(refine zm ?_ ?_<;>intro hg)|(exfalso;omega))
    exact⟨.inl rfl,_,rfl,rfl,rfl⟩
def gr (e:RE) (vs:List Int):RE:=vs.foldl (λe v=>e.set v.toNat none) e
theorem unset_len:∀ (vs:List Int) (e:RE),(gr e vs).length=e.length
 | [],_=>rfl
 | v::vs,e=>by
  show (gr (e.set v.toNat none) vs).length=_
  rw [unset_len vs,Ba]
theorem unset_set:∀ (vs:List Int) (e:RE) (v:Nat) (y:Option Int),(∀ u∈vs,u.toNat≠v)->gr (e.set v y) vs=(gr e vs).set v y
 | [],_,_,_,_=>rfl
 | u::vs,e,v,y,h=>by
  show gr ((e.set v y).set u.toNat none) vs=(gr (e.set u.toNat none) vs).set v y
  rw [List.set_comm _ _ (Ne.symm (h u (Ac ..)) ),unset_set vs _ v y λx hx=>h x (Ag _ hx)]
theorem unset_get:∀ (vs:List Int) (e:RE) (v:Nat),(∀ u∈vs,u.toNat≠v)->(gr e vs)[v]?=e[v]?
 | [],_,_,_=>rfl
 | u::vs,e,v,h=>by
  show (gr (e.set u.toNat none) vs)[v]?=_
  rw [unset_get vs _ v λx hx=>h x (Ag _ hx),Ce (h u (Ac ..))]
theorem unset_snoc {e:RE} {vs:List Int} {v:Int} {y:Option Int} (hv:e[v.toNat]?=some none) (h:∀ u∈vs,u.toNat≠v.toNat):gr (e.set v.toNat y) (vs++[v])=gr e vs:=by
 have:gr (e.set v.toNat y) (vs++[v])=(gr (e.set v.toNat y) vs).set v.toNat none:=by unfold gr;rw [D5];rfl
 rw [this,unset_set vs e _ _ h,List.set_set];have hg:=unset_get vs e v.toNat h;rw [hv] at hg;apply Ci;intro j;by_cases hj:v.toNat=j
 ·subst hj;rw [hg,B4 (List.getElem?_eq_some_iff.1 hg).1]
 ·rw [Ce hj]
theorem unset_take {e:RE} {vs:List Int} {k:Nat} (hk:k<vs.length):gr e (vs.take (k+1))=(gr e (vs.take k)).set vs[k].toNat none:=by
 unfold gr;rw [An hk,D5];rfl
theorem outE_unset (e:RE) (v:Nat):bq (e.set v none)=(bq e).set v 0:=by unfold bq;rw [C3];rfl
theorem hasE_unset (e:RE) (v:Nat):bx (e.set v none)=(bx e).set v false:=by unfold bx;rw [C3];rfl
theorem outE_set' (e:RE) (v:Nat) (x:Int):bq (e.set v (some x))=(bq e).set v x:=by unfold bq;rw [C3];rfl
theorem hasE_set' (e:RE) (v:Nat) (x:Int):bx (e.set v (some x))=(bx e).set v true:=by unfold bx;rw [C3];rfl
abbrev goH (r:Rul) (S:List Fct) (rest:List Ltl) (e:RE) (out:List (List Int)):Hp:=[(0,pfB r S 5),(1,.row 3 1 ((bq e).map aq)),(2,.row 4 1 ((bx e).map cu)),(3,.blk 166 [.loc 0 0]),(4,.blk 62 [.d (.slice 4 (rest.map ay))]),(5,.row 22 1 (out.map ey))]
def m8 (w out:List (List Int)):List (List Int):=(out++w).take 2001
def qy (w out:List (List Int)):Bool:=decide (out.length+w.length<=2000)
theorem sq {out:List (List Int)} (h:out.length<=2000):m8 [] out=out:=by unfold m8;rw [Bt,Ai (by omega)]
theorem s7 {out:List (List Int)} (h:out.length<=2000):qy [] out=true:=by unfold qy;simp;omega
def matW (W:RE->List (List Int)) (o:Option RE):List (List Int):=match o with|some e'=>W e'|none=>[]
theorem rowOk {α:Type} {f:α->List D} {l:List α} {i:Nat} (h:i<l.length) (hf:∀ x,(f x).length=1):i<(l.map f).length/\∀ y∈l.map f,y.length=1:=⟨by rw [Aa];exact h,λy hy=>by obtain⟨z,_,rfl⟩:=List.mem_map.1 hy;exact hf z⟩
theorem match_fnR (r:Rul) (S:List Fct) (rest:List Ltl) (out:List (List Int)) (e:RE) (l:List Trm) (ns:List Int) (W:RE->List (List Int)) (hl:l.length=ns.length) (hl3:l.length<=1000) (ho:∀ t∈l,okT e.length t) (hout:out.length<=2000)
  (hthen:∀ e',cw e l ns=some e'->FnOk false Tryz.prog tab b9 165 [.loc 3 0,.loc 4 0] 5 6 (goH r S rest e' out) (λk2 res H=>k2=6/\res = .d (.bool (qy (W e') out))/\H=goH r S rest e' (m8 (W e') out))) :
  FnOk false Tryz.prog tab b9 166 [.loc 0 0,.d (.slice 2 (l.map av)),.d (.slice 1 (ns.map aq)),.fn 165 [.loc 3 0,.loc 4 0]] 5 6 (goH r S rest e out)
   (λk2 res H=>k2=6/\res = .d (.bool (qy (matW W (cw e l ns)) out))/\H=goH r S rest e (m8 (matW W (cw e l ns)) out)):=by
 refine frE Tryz.func166 ?_;intro O w0 E0 β0;have ll:(l.map av).length=l.length:=Aa _;have ln:(ns.map aq).length=ns.length:=Aa _;repeat' ((fail_if_success (apply ip 3));(first|refine zs ?_|fail))
 refine ak (cd (t:=9) 3 1 rfl) ?_;refine dw_cut (ι:=RE×List Int×Bool) (λx=>⟨7,[(0,.loc 0 0),(3,.fn 165 [.loc 3 0,.loc 4 0]),(9,.row 6),(10,.d (.bool x.2.2))],(6,.row 3 1 (x.2.1.map aq))::goH r S rest x.1 out⟩)
  (λx=>x.1.length=e.length/\gr x.1 x.2.1=e/\(∀ u∈x.2.1,0<=u/\∃ y,x.1[u.toNat]?=some (some y))/\(x.2.2=true->cw e l ns=some x.1)/\(x.2.2=false->cw e l ns=none)/\x.2.1.length<=l.length) ?_ ?_
 ·repeat' (first|refine zs ?_|fail)
  refine ag (ι:=Nat×RE×List Int) (λx=>⟨7,[(0,.loc 0 0),(1,.d (.slice 2 (l.map av))),(2,.d (.slice 1 (ns.map aq))),(3,.fn 165 [.loc 3 0,.loc 4 0]),(9,.row 6),(10,.d (.bool true)),(18,.d (.slice 2 (l.map av))),(19,.d (.int .i64 l.length)),(20,.d (.int .i64 x.1))],(6,.row 3 1 (x.2.2.map aq))::goH r S rest x.2.1 out⟩)
   (λx=>x.1<=l.length/\x.2.1.length=e.length/\cw e l ns=cw x.2.1 (l.drop x.1) (ns.drop x.1)/\gr x.2.1 x.2.2=e/\(∀ u∈x.2.2,0<=u/\∃ y,x.2.1[u.toNat]?=some (some y))/\x.2.2.length<=x.1) (λx=>l.length-x.1) (0,e,[]) ⟨Ak _,rfl,rfl,rfl,λ_ h=>(by simp at h),Ah _⟩
   (ai id ⟨rfl,rfl,rfl,rfl,rfl,rfl,rfl,by rw [<- ll];rfl,rfl,trivial⟩ ⟨rfl,rfl,rfl,rfl,rfl,rfl,rfl,trivial⟩ rfl rfl rfl rfl rfl rfl) ?_
  rintro⟨i,ei,vs⟩ ⟨g1,g2,g3,g4,g5,g6⟩;dsimp only at g1 g2 g3 g4 g5 g6 ⊢;clear hthen;by_cases hi:i<l.length
  ·have hoi:=ho _ (Aj hi);rw [<- g2] at hoi;have w:=value_fn r S out ei l[i] hoi;have hn:i<ns.length:=by omega
   rw [Am hi,Am hn,cw] at g3;repeat' (first|refine zs ?_|(refine zm ?_ ?_<;>intro hg)|(exfalso;omega))
   refine bg (λj=>match j with|3=>5|j=>j) w rfl rfl rfl rfl ⟨rfl,rfl,rfl,rfl,trivial⟩ rfl rfl rfl rfl rfl rfl ?_ ?_
   ·rintro k2 res H2 ⟨rfl,rfl⟩;exact⟨rfl,rfl⟩
   rintro k2 res H2 ⟨rfl,rfl⟩;change DS _ _ _ _ _ _ _ _;clear w;cases hv:vOf ei l[i] with
   | some x =>
    have hx:vA (bq ei) l[i]=x:=vOf_out hv;rw [hv] at g3;simp only at g3;rw [hx];by_cases hc:x=ns[i]
    ·rw [if_pos hc] at g3;repeat' (first|refine zs ?_|(apply inB_x;exact rfl)|(refine zm ?_ ?_<;>intro hg)|(exfalso;omega))
     exact⟨(i+1,ei,vs),⟨hi,g2,g3,g4,g5,by dsimp only;omega⟩,er id,by show l.length-(i+1)<l.length-i;omega⟩
    ·rw [if_neg hc] at g3;repeat' (first|refine zs ?_|(apply inB_x;exact rfl)|(refine zm ?_ ?_<;>intro hg)|(exfalso;omega))
     exact⟨(ei,vs,false),⟨g2,g4,g5,(λh=>(nomatch h)),λ_=>g3,by dsimp only;omega⟩,er id⟩
   | none =>
    rw [hv] at g3;simp only at g3;have hv0:¬ l[i].var<0:=λh=>by unfold vOf at hv;rw [if_pos h] at hv;cases hv
    unfold okT at hoi;have hlt:l[i].var.toNat<ei.length:=by omega
    have hev:ei[l[i].var.toNat]?=some none:=by
     unfold vOf at hv;rw [if_neg hv0,A6,Ad hlt] at hv;rw [Ad hlt];simpa using hv
    have lo:((bq ei).map aq).length=ei.length:=by rw [Aa,dx]
    have lh:((bx ei).map cu).length=ei.length:=by rw [Aa,cx]
    have hpm:l[i].var.toNat<((bq ei).map aq).length/\∀ y∈(bq ei).map aq,y.length=1:=rowOk (by rw [dx];exact hlt) λ_=>rfl
    have hpk:l[i].var.toNat<((bx ei).map cu).length/\∀ y∈(bx ei).map cu,y.length=1:=rowOk (by rw [cx];exact hlt) λ_=>rfl
    have hne:∀ u∈vs,u.toNat≠l[i].var.toNat:=λu hu he=>by
     obtain⟨_,y,hy⟩:=g5 u hu;rw [he,hev] at hy;cases hy
    repeat' (first|refine zs ?_|(exfalso;omega))
    have o1:=outE_set' ei l[i].var.toNat ns[i];have o2:=hasE_set' ei l[i].var.toNat ns[i];refine⟨(i+1,ei.set l[i].var.toNat (some ns[i]),vs++[l[i].var]),⟨hi,by dsimp only;rw [Ba];exact g2,g3,(unset_snoc hev hne).trans g4,λu hu=>?_,by dsimp only;rw [Af,List.length_singleton];omega⟩,
     ai (λj=>match j with|6=>8|j=>j) ⟨rfl,rfl,rfl,rfl,rfl,rfl,rfl,rfl,rfl,trivial⟩ ⟨by rw [Ar];rfl,rfl,by rw [o1,C3];rfl,by rw [o2,C3];rfl,rfl,rfl,rfl,trivial⟩ rfl rfl rfl rfl rfl rfl,by show l.length-(i+1)<l.length-i;omega⟩
    rcases List.mem_append.1 hu with hu|hu
    ·obtain⟨q1,y,q2⟩:=g5 u hu;exact⟨q1,y,by dsimp only;rw [Ce (Ne.symm (hne u hu))];exact q2⟩
    ·rw [List.mem_singleton] at hu;subst hu;exact⟨by omega,ns[i],by dsimp only;rw [B4 hlt]⟩
  ·rw [As (by omega)] at g3;have g3:cw e l ns=some ei:=g3;repeat' (first|refine zs ?_|(refine zm ?_ ?_<;>intro hg)|(exfalso;omega))
   exact⟨(ei,vs,true),⟨g2,g4,g5,λ_=>g3,(λh=>(nomatch h)),by dsimp only;omega⟩,er id⟩
 ·rintro⟨ei,vs,ok⟩ ⟨g2,g4,g5,g7,g8,g9⟩;dsimp only at g2 g4 g5 g7 g8 g9 ⊢;repeat' ((fail_if_success (apply eo 14));fail)
  refine dw_cut (ι:=Unit) (λ_=>⟨7,[(0,.loc 0 0),(9,.row 6),(15,.d (.bool (qy (matW W (cw e l ns)) out)))],(6,.row 3 1 (vs.map aq))::goH r S rest ei (m8 (matW W (cw e l ns)) out)⟩) (λ_=>True) ?_ ?_
  ·cases ok with
   | false =>
    have hm:=g8 rfl;rw [hm,show matW W none=[] from rfl,s7 hout,sq hout];repeat' (first|refine zs ?_|(exfalso;omega))
    exact⟨(),trivial,er id⟩
   | true =>
    have hm:=g7 rfl;have w:=hthen ei hm;rw [hm,show matW W (some ei)=W ei from rfl];repeat' (first|refine zs ?_|(exfalso;omega))
    (refine qc id (w) rfl rfl rfl rfl rfl rfl ⟨rfl,rfl,rfl,rfl,rfl,rfl,trivial⟩ rfl rfl rfl rfl rfl rfl ?_ ?_)
    ·rintro k2 res H2 ⟨rfl,rfl,rfl⟩;exact⟨rfl,rfl⟩
    rintro k2 res H2 ⟨rfl,rfl,rfl⟩;change DS _ _ _ _ _ _ _ _;repeat' (first|refine zs ?_|(exfalso;omega))
    exact⟨(),trivial,er (λj=>match j with|5=>12|j=>j)⟩
  ·clear hthen;rintro _ _;generalize qy (matW W (cw e l ns)) out=bb;generalize m8 (matW W (cw e l ns)) out=o2;have lv:(vs.map aq).length=vs.length:=Aa _;repeat' (first|refine zs ?_|(exfalso;omega))
   refine ag (ι:=Nat) (λi=>⟨7,[(0,.loc 0 0),(9,.row 6),(15,.d (.bool bb)),(76,.row 6),(77,.d (.int .i64 vs.length)),(78,.d (.int .i64 i))],(6,.row 3 1 (vs.map aq))::goH r S rest (gr ei (vs.take i)) o2⟩)
    (λi=>i<=vs.length) (λi=>vs.length-i) 0 (Ak _) (ai id ⟨rfl,rfl,rfl,rfl,by rw [<- lv];rfl,rfl,trivial⟩ ⟨rfl,rfl,rfl,rfl,rfl,rfl,rfl,trivial⟩ rfl rfl rfl rfl rfl rfl) ?_
   intro i g1;by_cases hi:i<vs.length
   ·obtain⟨h0,y,hy⟩:=g5 _ (Aj hi);have hlt:vs[i].toNat<(gr ei (vs.take i)).length:=by rw [unset_len];exact (List.getElem?_eq_some_iff.1 hy).1
    have ht:=unset_take (e:=ei) hi;have o1:=outE_unset (gr ei (vs.take i)) vs[i].toNat;have o2':=hasE_unset (gr ei (vs.take i)) vs[i].toNat;have lo:((bq (gr ei (vs.take i))).map aq).length=(gr ei (vs.take i)).length:=by rw [Aa,dx]
    have lh:((bx (gr ei (vs.take i))).map cu).length=(gr ei (vs.take i)).length:=by rw [Aa,cx]
    have hpm:vs[i].toNat<((bq (gr ei (vs.take i))).map aq).length/\∀ y∈(bq (gr ei (vs.take i))).map aq,y.length=1:=rowOk (by rw [dx];exact hlt) λ_=>rfl
    have hpk:vs[i].toNat<((bx (gr ei (vs.take i))).map cu).length/\∀ y∈(bx (gr ei (vs.take i))).map cu,y.length=1:=rowOk (by rw [cx];exact hlt) λ_=>rfl
    repeat' (first|refine zr ?_|(refine zm ?_ ?_<;>intro hg)|(exfalso;omega))
    exact⟨i+1,hi,ai id ⟨rfl,rfl,rfl,rfl,rfl,rfl,trivial⟩ ⟨rfl,rfl,by rw [ht,o1,C3];rfl,by rw [ht,o2',C3];rfl,rfl,rfl,rfl,trivial⟩ rfl rfl rfl rfl rfl rfl,by omega⟩
   ·rw [Ai (by omega),g4];repeat' (first|refine zr ?_|(refine zm ?_ ?_<;>intro hg)|(exfalso;omega))
    exact⟨.inl rfl,_,rfl,kp id 6 _ (goH r S rest e o2) ⟨rfl,rfl,rfl⟩⟩
end Go.Proofs.YtapciiffpnociadGreat
