/- Several texts in one: RuQ RuB RuR RuC RuD RuE RuG. Condition: none. -/
import Derived.Test.YtapciiffpnociadGreatM13
import Derived.Test.YtapciiffpnociadGreatM10
set_option linter.all false
set_option maxHeartbeats 8000000
open Bool renaming and_eq_true→Ad,false_eq_true→Do,false_or→Cb,or_eq_true→Du,true_and→Bo
open List renaming all_eq_true→Bg,drop_eq_getElem_cons→Ao,drop_of_length_le→Ax,drop_succ_cons→E6,drop_zero→D5,filter_cons→Db,findIdx_getElem→D2,findIdx_lt_length_of_exists→Et,flatMap_append→Ej,flatMap_nil→Hh,foldlM_cons→Eu,foldlM_nil→Hm,foldl_cons→A2,foldl_nil→Fe,getD_cons_succ→Eh,getD_cons_zero→Ei,getElem?_append_right→A8,getElem?_eq_getElem→Ab,getElem?_set_ne→Cf,getElem?_set_self→By,getElem_map→C5,getElem_mem→Ag,length_append→Ap,length_drop→B9,length_eraseIdx→D3,length_map→Aa,length_nil→Di,length_set→A3,length_take→Au,map_cons→A7,map_nil→Dh,map_set→Dc,mem_cons_of_mem→Ah,mem_cons_self→Ae,mem_of_mem_drop→Bv,mem_singleton→A5,take_append_drop→Dx,take_zero→Hr
open Nat renaming zero_le→Ai
open Option renaming bind_eq_some_iff→D4
namespace Go.Proofs.YtapciiffpnociadGreat
variable [Bnds]
def po (l:Ltl):List Trm:=if l.kind=4 then l.terms.take 2 else l.terms
def t6 (e:RE) (l:Ltl):Bool:=(po l).all λt=>(vOf e t).isSome
def eo (e:RE) (left:List Ltl):Nat:=if left.findIdx (t6 e)<left.length then left.findIdx (t6 e) else left.findIdx λl=>decide (l.kind=1)
def xn (S:List Fct) (go:RE->List (List Int)) (l:Ltl) (e:RE):List (List Int) :=
 if l.kind=1 then S.flatMap λx=>if x.pred=l.pred then (match ce e l.terms x.args with|some e'=>go e'|none=>[]) else []
 else if l.kind=4 then (if numB (ku l (bl e)) then (match ce e (l.terms.drop 2) [ku l (bl e)] with|some e'=>go e'|none=>[]) else [])
 else if holdE S l (bl e) then go e else []
def im (S:List Fct):Nat->List Ltl->RE->List (List Int)
 | _,[],e=>[bl e]
 | 0,_::_,_=>[]
 | k+1,l0::ls,e=>match (l0::ls)[eo e (l0::ls)]? with
  | none=>[]
  | some l=>xn S (im S k ((l0::ls).eraseIdx (eo e (l0::ls)))) l e
theorem sm {α:Type} {l:List α} {i:Nat} (h:i<l.length) (x:α):x∈l↔x=l[i]∨x∈l.eraseIdx i:=by
 rw [List.mem_eraseIdx_iff_getElem];constructor
 ·intro hx;obtain⟨j,hj,rfl⟩:=List.mem_iff_getElem.1 hx;by_cases hq:j=i
  ·subst hq;exact .inl rfl
  ·exact .inr ⟨j,hj,hq,rfl⟩
 ·rintro (rfl|⟨j,hj,_,rfl⟩)
  ·exact Ag h
  ·exact Ag hj
theorem next_lt {S:List Fct} {e:RE} {left:List Ltl} (h0:left≠[]) (hok:∀ l∈left,okL S e.length l) (hB:Bd left (bm e)):eo e left<left.length:=by
 unfold eo;split
 ·assumption
 ·rename_i h1;refine Et ?_;apply Classical.byContradiction;intro h2;have h1':∀ l∈left,t6 e l=false:=by
   intro l hl;cases h:t6 e l with
   | false=>rfl
   | true=>exact absurd (Et ⟨l,hl,h⟩) h1
  have hcl:zi left (bm e):=by
   intro l hl hf;exfalso;unfold b9 at hf;rw [Du,Ad] at hf;rcases hf with hf|⟨hf,hg⟩
   ·exact h2 ⟨l,hl,hf⟩
   ·have:=h1' l hl
    unfold t6 po at this;rw [if_pos (of_decide_eq_true hf)] at this;have hg':(l.terms.take 2).all (λt=>(vOf e t).isSome)=true:=by
     rw [Bg] at hg ⊢;intro t ht;rw [<- qr];exact hg t ht
    rw [hg'] at this;cases this
  have hfull:=hB _ (leB.refl _) hcl;obtain⟨l,hl⟩:=List.exists_mem_of_ne_nil left h0;have:=h1' l hl
  unfold t6 at this;have hall:(po l).all (λt=>(vOf e t).isSome)=true:=by
   rw [Bg];intro t ht;refine full_some hfull ((hok l hl).terms t ?_);unfold po at ht;split at ht
   ·exact List.mem_of_mem_take ht
   ·exact ht
  rw [hall] at this;cases this
theorem next_is {e:RE} {left:List Ltl} (h:eo e left<left.length):t6 e (left[eo e left])=true∨(left[eo e left]).kind=1:=by
 unfold eo at h ⊢;split
 ·left;exact D2
 ·rename_i h1;rw [if_neg h1] at h;right;have:=D2 (xs:=left) (p:=λl=>decide (l.kind=1)) (w:=h)
  exact of_decide_eq_true this
theorem Bd_rest {left:List Ltl} {i:Nat} (hi:i<left.length) {bs cs:List Bool} (hB:Bd left bs) (hle:leB bs cs) (hd:(∀ t∈dq left[i],isT cs t=true)∨∀ ds,b9 ds left[i]=false):Bd (left.eraseIdx i) cs:=by
 intro ds h1 h2;refine hB ds (hle.trans h1) λl hl hf t ht=>?_
 rcases (sm hi l).1 hl with rfl|hl
 ·rcases hd with hd|hd
  ·exact sr h1 (hd t ht)
  ·rw [hd ds] at hf;cases hf
 ·exact h2 l hl hf t ht
theorem holdE_calc {S:List Fct} {l:Ltl} {a:List Int} (h4:l.kind=4) (h3:l.terms.length=3):holdE S l a=true↔numB (ku l a)=true/\(l.terms.drop 2).map (vA a)=[ku l a]:=by
 unfold holdE;rw [if_neg (by omega),if_neg (by omega),if_neg (by omega),Ad,decide_eq_true_eq];match hl:l.terms,h3 with
 | [t1,t2,t3],_ =>
  simp only [A7,Dh,E6,D5,Eh,Ei,List.cons.injEq,and_true];exact and_congr Iff.rfl eq_comm
theorem u6 {l:Ltl} {e:RE} {a:List Int} (h:kb e a) (h3:l.terms.length=3) (hr:∀ t∈l.terms.take 2,(vOf e t).isSome=true):ku l a=ku l (bl e):=by
 unfold ku;match hl:l.terms,h3 with
 | [t1,t2,t3],_ =>
  rw [hl] at hr;simp only [A7,Ei,Eh];rw [vA_same h (hr t1 (by simp)),vA_same h (hr t2 (by simp))]
theorem litW_mem {S:List Fct} {go:RE->List (List Int)} {l:Ltl} {e:RE} (hok:okL S e.length l) (hr:t6 e l=true∨l.kind=1) (a:List Int) {P:List Int->Prop}
  (hgo:∀ e',e'.length=e.length->leB (bm e) (bm e')->((∀ t∈dq l,isT (bm e') t=true)∨∀ ds,b9 ds l=false)->(a∈go e'↔kb e' a/\P a)) :
  a∈xn S go l e↔(kb e a/\holdE S l a=true)/\P a:=by
 unfold xn;by_cases h1:l.kind=1
 ·rw [if_pos h1,List.mem_flatMap];have hlit:dq l=l.terms:=by unfold dq;rw [if_pos h1]
  have hho:holdE S l a=true↔(⟨l.pred,l.terms.map (vA a)⟩:Fct)∈S:=by unfold holdE;rw [if_pos h1,hasF_iff]
  constructor
  ·rintro⟨x,hx,ha⟩;split at ha
   ·rename_i hp;have hlen:=(hok.facts h1 x hx hp).symm;split at ha
    ·rename_i e' he';obtain⟨g1,g2,g3⟩:=fh hlen hok.terms he';have g4:=(hgo e' g1 (by rw [g3];exact ky _ _) (.inl (by rw [hlit,g3];exact m7 (by rw [cg];exact hok.terms)))).1 ha;obtain⟨g5,g6⟩:=(g2 a).1 g4.1;refine⟨⟨g5,hho.2 ?_⟩,g4.2⟩
     rw [g6,<- hp];exact hx
    ·simp at ha
   ·simp at ha
  ·rintro⟨⟨ha,hh⟩,hP⟩;refine⟨_,hho.1 hh,?_⟩
   rw [if_pos rfl];have hlen:l.terms.length=(l.terms.map (vA a)).length:=(Aa _).symm;cases he':ce e l.terms (l.terms.map (vA a)) with
   | none=>exact absurd rfl (rl hlen hok.terms he' a ha)
   | some e' =>
    obtain⟨g1,g2,g3⟩:=fh hlen hok.terms he';exact (hgo e' g1 (by rw [g3];exact ky _ _) (.inl (by rw [hlit,g3];exact m7 (by rw [cg];exact hok.terms)))).2 ⟨(g2 a).2 ⟨ha,rfl⟩,hP⟩
 ·rw [if_neg h1];have hr:=hr.resolve_right h1;unfold t6 po at hr;by_cases h4:l.kind=4
  ·rw [if_pos h4] at hr ⊢;have h3:=hok.calc3 h4;have hr':∀ t∈l.terms.take 2,(vOf e t).isSome=true:=List.all_eq_true.1 hr;have hdl:(l.terms.drop 2).length=[ku l (bl e)].length:=by rw [B9,h3];rfl
   have hdo:∀ t∈l.terms.drop 2,okT e.length t:=λt ht=>hok.terms t (Bv ht)
   have hlit:dq l=l.terms.drop 2:=by unfold dq;rw [if_neg h1]
   rw [holdE_calc h4 h3];constructor
   ·intro ha;split at ha
    ·rename_i hn;split at ha
     ·rename_i e' he';obtain⟨g1,g2,g3⟩:=fh hdl hdo he';have g4:=(hgo e' g1 (by rw [g3];exact ky _ _) (.inl (by rw [hlit,g3];exact m7 (by rw [cg];exact hdo)))).1 ha;obtain⟨g5,g6⟩:=(g2 a).1 g4.1;rw [u6 g5 h3 hr'];exact⟨⟨g5,hn,g6⟩,g4.2⟩
     ·simp at ha
    ·simp at ha
   ·rintro⟨⟨ha,hn,hm⟩,hP⟩;rw [u6 ha h3 hr'] at hn hm;rw [if_pos hn];cases he':ce e (l.terms.drop 2) [ku l (bl e)] with
    | none=>exact absurd hm (rl hdl hdo he' a ha)
    | some e' =>
     obtain⟨g1,g2,g3⟩:=fh hdl hdo he';exact (hgo e' g1 (by rw [g3];exact ky _ _) (.inl (by rw [hlit,g3];exact m7 (by rw [cg];exact hdo)))).2 ⟨(g2 a).2 ⟨ha,hm⟩,hP⟩
  ·rw [if_neg h4] at hr ⊢;have hr':∀ t∈l.terms,(vOf e t).isSome=true:=List.all_eq_true.1 hr;have hnf:∀ ds,b9 ds l=false:=λds=>by unfold b9;rw [decide_eq_false h1,decide_eq_false h4];rfl
   have hg:=hgo e rfl (leB.refl _) (.inr hnf);constructor
   ·intro ha;split at ha
    ·rename_i hh;obtain⟨g1,g2⟩:=hg.1 ha;exact⟨⟨g1,by rw [holdE_same g1 hr'];exact hh⟩,g2⟩
    ·simp at ha
   ·rintro⟨⟨ha,hh⟩,hP⟩;rw [if_pos (by rw [<- holdE_same ha hr'];exact hh)];exact hg.2 ⟨ha,hP⟩
theorem findE_mem (S:List Fct):∀ (k:Nat) (left:List Ltl) (e:RE),left.length<=k->(∀ l∈left,okL S e.length l)->Bd left (bm e)->∀ a,a∈im S k left e↔kb e a/\∀ l∈left,holdE S l a=true
 | k,[],e,_,_,hB,a=>by
  have h:im S k [] e=[bl e]:=by cases k<;>rfl
  rw [h,A5,full_out (hB _ (leB.refl _) (by intro l hl;simp at hl))];simp
 | 0,_::_,_,hk,_,_,_=>by simp at hk
 | k+1,l0::ls,e,hk,hok,hB,a=>by
  have hlt:=next_lt (by simp) hok hB;have hnx:=next_is hlt;rw [im];generalize hi:eo e (l0::ls)=i at hlt hnx;rw [Ab hlt];generalize hL:l0::ls=left at *;have hlen:(left.eraseIdx i).length<=k:=by rw [D3,if_pos hlt];omega
  have hsub:∀ l∈left.eraseIdx i,l∈left:=λl hl=>(sm hlt l).2 (.inr hl)
  simp only;rw [litW_mem (P:=λa=>∀ l∈left.eraseIdx i,holdE S l a=true) (hok _ (Ag hlt)) hnx a λe' g1 g2 g3=>findE_mem S k (left.eraseIdx i) e' hlen (λl hl=>by rw [g1];exact hok l (hsub l hl)) (Bd_rest hlt hB g2 g3) a];constructor
  ·rintro⟨⟨g1,g2⟩,g3⟩;exact⟨g1,λl hl=>((sm hlt l).1 hl).elim (λh=>h▸g2) (g3 l)⟩
  ·rintro⟨g1,g2⟩;exact⟨⟨g1,g2 _ (Ag hlt)⟩,λl hl=>g2 l (hsub l hl)⟩
theorem litW_nodup {S:List Fct} {go:RE->List (List Int)} {l:Ltl} {e:RE} (hS:S.Nodup) (hok:okL S e.length l) (hgo:∀ e',e'.length=e.length->leB (bm e) (bm e')->((∀ t∈dq l,isT (bm e') t=true)∨∀ ds,b9 ds l=false)->(go e').Nodup/\∀ a∈go e',kb e' a):(xn S go l e).Nodup:=by
 unfold xn;by_cases h1:l.kind=1
 ·rw [if_pos h1];have hlit:dq l=l.terms:=by unfold dq;rw [if_pos h1]
  have key:∀ x∈S,x.pred=l.pred->∀ e',ce e l.terms x.args=some e'->(go e').Nodup/\∀ a∈go e',l.terms.map (vA a)=x.args:=by
   intro x hx hp e' he';obtain⟨g1,g2,g3⟩:=fh (hok.facts h1 x hx hp).symm hok.terms he';obtain⟨g4,g5⟩:=hgo e' g1 (by rw [g3];exact ky _ _) (.inl (by rw [hlit,g3];exact m7 (by rw [cg];exact hok.terms)));exact⟨g4,λa ha=>((g2 a).1 (g5 a ha)).2⟩
  refine List.pairwise_flatMap.2 ⟨λx hx=>?_,hS.imp_of_mem fun {x y} hx hy hne u hu v hv=>?_⟩
  ·split
   ·rename_i hp;split
    ·rename_i e' he';exact (key x hx hp e' he').1
    ·exact .nil
   ·exact .nil
  ·rintro rfl;split at hu
   ·rename_i hp;split at hu
    ·rename_i e' he';split at hv
     ·rename_i hq;split at hv
      ·rename_i f' hf';have g1:=(key x hx hp e' he').2 u hu;have g2:=(key y hy hq f' hf').2 u hv;apply hne;obtain⟨xp,xa⟩:=x;obtain⟨yp,ya⟩:=y;simp only at hp hq g1 g2;rw [hp,hq,<- g1,<- g2]
      ·simp at hv
     ·simp at hv
    ·simp at hu
   ·simp at hu
 ·rw [if_neg h1];by_cases h4:l.kind=4
  ·rw [if_pos h4];have h3:=hok.calc3 h4;have hdl:(l.terms.drop 2).length=[ku l (bl e)].length:=by rw [B9,h3];rfl
   have hdo:∀ t∈l.terms.drop 2,okT e.length t:=λt ht=>hok.terms t (Bv ht)
   have hlit:dq l=l.terms.drop 2:=by unfold dq;rw [if_neg h1]
   split
   ·split
    ·rename_i e' he';obtain⟨g1,g2,g3⟩:=fh hdl hdo he';exact (hgo e' g1 (by rw [g3];exact ky _ _) (.inl (by rw [hlit,g3];exact m7 (by rw [cg];exact hdo)))).1
    ·exact .nil
   ·exact .nil
  ·rw [if_neg h4];have hnf:∀ ds,b9 ds l=false:=λds=>by unfold b9;rw [decide_eq_false h1,decide_eq_false h4];rfl
   split
   ·exact (hgo e rfl (leB.refl _) (.inr hnf)).1
   ·exact .nil
theorem findE_nodup (S:List Fct) (hS:S.Nodup):∀ (k:Nat) (left:List Ltl) (e:RE),left.length<=k->(∀ l∈left,okL S e.length l)->Bd left (bm e)->(im S k left e).Nodup
 | k,[],e,_,_,_=>by
  have h:im S k [] e=[bl e]:=by cases k<;>rfl
  rw [h];exact List.nodup_cons.2 ⟨by simp,.nil⟩
 | 0,_::_,_,hk,_,_=>by simp at hk
 | k+1,l0::ls,e,hk,hok,hB=>by
  have hlt:=next_lt (by simp) hok hB;rw [im];generalize hi:eo e (l0::ls)=i at hlt;rw [Ab hlt];generalize hL:l0::ls=left at *;have hlen:(left.eraseIdx i).length<=k:=by rw [D3,if_pos hlt];omega
  have hsub:∀ l∈left.eraseIdx i,l∈left:=λl hl=>(sm hlt l).2 (.inr hl)
  exact litW_nodup hS (hok _ (Ag hlt)) λe' g1 g2 g3=>⟨findE_nodup S hS k _ e' hlen (λl hl=>by rw [g1];exact hok l (hsub l hl)) (Bd_rest hlt hB g2 g3),
   λa ha=>((findE_mem S k _ e' hlen (λl hl=>by rw [g1];exact hok l (hsub l hl)) (Bd_rest hlt hB g2 g3) a).1 ha).1⟩
open Go Go.RowKit
variable [Bnds]
attribute [local irreducible] DW DS DL DQ Ev FnOk FnP dp bh DT
theorem litHolds_fn (S:List Fct) (l:Ltl) (a:List Int) (hok:okL S a.length l) (hop:l.kind=3->1<=l.op/\l.op<=4) (hn:l.kind=4->∀ t∈l.terms,-1000000<=vA a t/\vA a t<=1000000) (hl:l.terms.length<=4398046511104) :
  Fn 264 [elLtl l,.d (.slice 1 (a.map ah)),.d (.slice 2 (S.map aa))] (λr=>r = .d (.bool (holdE S l a))):=by
 have w1:=zn l.terms a hok.terms hl;have w2:=hasFact_fn S ⟨l.pred,l.terms.map (vA a)⟩;have hk:=hok.kind;have ht2:=hok.test2;have ht3:=hok.calc3;clear hok;obtain⟨kind,op,pred,terms⟩:=l;dsimp only [elLtl] at *;refine fqE Tryz.func264 ?_;intro O w0 E0 β0;have hk4:kind=1∨kind=2∨kind=3∨kind=4:=by omega
 rcases hk4 with rfl|rfl|rfl|rfl
 ·have hh:holdE S ⟨1,op,pred,terms⟩ a=hasF S ⟨pred,terms.map (vA a)⟩:=rfl;rw [hh];repeat' (first|refine zr ?_|refine z21 ?_ (hc:=by apply w1)|refine z21 ?_ (hc:=by apply w2)|fail)
  exact⟨.inl rfl,_,rfl,rfl,rfl⟩
 ·have hh:holdE S ⟨2,op,pred,terms⟩ a = !hasF S ⟨pred,terms.map (vA a)⟩:=rfl;rw [hh];repeat' (first|refine zr ?_|refine z21 ?_ (hc:=by apply w1)|refine z21 ?_ (hc:=by apply w2)|fail)
  exact⟨.inl rfl,_,rfl,rfl,rfl⟩
 ·have hh:holdE S ⟨3,op,pred,terms⟩ a=zu op ((terms.map (vA a)).getD 0 0) ((terms.map (vA a)).getD 1 0):=rfl;rw [hh];clear hh w2 hn ht3;match terms,ht2 rfl with
  | [t1,t2],_ =>
   simp only [A7,Dh,Ei,Eh] at w1 ⊢;generalize vA a t1=x at w1 ⊢;generalize vA a t2=y at w1 ⊢;have ho4:op=1∨op=2∨op=3∨op=4:=by have:=hop rfl;omega
   clear hop;rcases ho4 with rfl|rfl|rfl|rfl
   ·have hh:zu 1 x y=decide (x<y):=rfl;rw [hh];repeat' (first|refine zr ?_|refine z21 ?_ (hc:=by apply w1)|(refine zm ?_ ?_<;>intro hg)|fail)
    all_goals first
     | exact⟨.inl rfl,_,rfl,rfl,rfl⟩
     | exact cm rfl (by simp_all)
   ·have hh:zu 2 x y=decide (x<=y):=rfl;rw [hh];repeat' (first|refine zr ?_|refine z21 ?_ (hc:=by apply w1)|(refine zm ?_ ?_<;>intro hg)|fail)
    all_goals first
     | exact⟨.inl rfl,_,rfl,rfl,rfl⟩
     | exact cm rfl (by simp_all)
   ·have hh:zu 3 x y=decide (x=y):=rfl;rw [hh];repeat' (first|refine zr ?_|refine z21 ?_ (hc:=by apply w1)|(refine zm ?_ ?_<;>intro hg)|fail)
    all_goals first
     | exact⟨.inl rfl,_,rfl,rfl,rfl⟩
     | exact cm rfl (by simp_all)
   ·have hh:zu 4 x y=decide (x≠y):=rfl;rw [hh];repeat' (first|refine zr ?_|refine z21 ?_ (hc:=by apply w1)|fail)
    all_goals first
     | exact⟨.inl rfl,_,rfl,rfl,rfl⟩
     | exact cm rfl (by simp_all)
 ·have hh:holdE S ⟨4,op,pred,terms⟩ a=(numB (mu op ((terms.map (vA a)).getD 0 0) ((terms.map (vA a)).getD 1 0)) && decide (mu op ((terms.map (vA a)).getD 0 0) ((terms.map (vA a)).getD 1 0)=(terms.map (vA a)).getD 2 0)):=rfl;rw [hh];have hn:=hn rfl;clear hh w2 hop ht2;match terms,ht3 rfl with
  | [t1,t2,t3],_ =>
   have n1:=hn t1 (by simp);have n2:=hn t2 (by simp);simp only [A7,Dh,Ei,Eh] at w1 ⊢;generalize vA a t1=x at w1 n1 ⊢;generalize vA a t2=y at w1 n2 ⊢;generalize vA a t3=z at w1 ⊢;have w3:=calcOf_fn op x y n1 n2;have w4:=kh (mu op x y);cases hb:numB (mu op x y) with
   | false =>
    rw [hb] at w4;repeat' (first|refine zr ?_|refine z21 ?_ (hc:=by apply w1)|refine z22 ?_ (hc:=by apply w3)|refine z21 ?_ (hc:=by apply w4)|fail)
    exact⟨.inl rfl,_,rfl,rfl,rfl⟩
   | true =>
    rw [hb] at w4;repeat' (first|refine zr ?_|refine z21 ?_ (hc:=by apply w1)|refine z22 ?_ (hc:=by apply w3)|refine z21 ?_ (hc:=by apply w4)|fail)
    exact⟨.inl rfl,_,rfl,rfl,rfl⟩
variable [Bnds]
def rf (e:RE) (l:Ltl):Option RE :=
 if l.kind=4/\(l.terms.take 2).all (λt=>(vOf e t).isSome)=true/\(l.terms.drop 2).all (λt=>(vOf e t).isSome)=false then
  (if numB (ku l (bl e)) then some ((l.terms.drop 2).foldl (λe t=>e.set t.var.toNat (some (ku l (bl e)))) e) else none)
 else some e
def tz (body:List Ltl) (e:RE):Option RE:=body.foldlM rf e
def o0 (body:List Ltl):Nat->RE->Option RE
 | 0,e=>some e
 | n+1,e=>(tz body e).bind (o0 body n)
def nv (S:List Fct) (body:List Ltl) (e:RE):Bool:=body.any λl=>l.terms.all (λt=>(vOf e t).isSome) && !holdE S l (bl e)
def dt (S:List Fct) (body:List Ltl):List Ltl->RE->List (List Int)
 | [],e=>match o0 body (body.length+1) e with
  | none=>[]
  | some e'=>if nv S body e' then [] else [bl e']
 | l::ys,e=>match o0 body (body.length+1) e with
  | none=>[]
  | some e'=>if nv S body e' then [] else xn S (dt S body ys) l e'
theorem drop2 {l:Ltl} (h3:l.terms.length=3):∃ t1 t2 t3,l.terms=[t1,t2,t3]:=by
 match h:l.terms,h3 with
 | [t1,t2,t3],_=>exact⟨t1,t2,t3,rfl⟩
theorem yt {S:List Fct} {e e':RE} {l:Ltl} (hok:okL S e.length l) (h:rf e l=some e') :
  e'.length=e.length/\(∀ a,holdE S l a=true->(kb e' a↔kb e a))/\bm e'=(if l.kind=4 then k9 (bm e) l else bm e)/\∀ a,kb e' a->kb e a:=by
 unfold rf at h;by_cases h4:l.kind=4
 ·have h3:=hok.calc3 h4;obtain⟨t1,t2,t3,hT⟩:=drop2 h3;have o3:okT e.length t3:=hok.terms t3 (by rw [hT];simp);have hdr:l.terms.drop 2=[t3]:=by rw [hT];rfl
  have hlit:dq l=[t3]:=by unfold dq;rw [if_neg (by omega),hdr]
  rw [if_pos h4];by_cases h12:(l.terms.take 2).all (λt=>(vOf e t).isSome)=true
  ·have hfire:b9 (bm e) l=true:=by
    unfold b9;rw [decide_eq_true h4,Bo,Du];right;rw [Bg] at h12 ⊢;intro t ht;rw [qr];exact h12 t ht
   have hbl:k9 (bm e) l=jb (bm e) t3:=by unfold k9;rw [if_pos hfire,hlit];rfl
   cases hv:vOf e t3 with
   | some x =>
    rw [if_neg (by rw [hdr];simp [hv])] at h;simp only [Option.some.injEq] at h;subst h;exact⟨rfl,λa _=>Iff.rfl,by rw [hbl,p5 (by rw [qr,hv];rfl)],λa ha=>ha⟩
   | none =>
    rw [if_pos ⟨h4,h12,by rw [hdr];simp [hv]⟩] at h;split at h
    ·rw [hdr] at h;simp only [A2,Fe,Option.some.injEq] at h;subst h;have hx:=λa=>set_ext' (a:=a) (n:=ku l (bl e)) o3 hv
     refine⟨A3 ..,λa ha=>?_,by rw [set_has hv,hbl],λa ha=>((hx a).1 ha).1⟩
     rw [hx a];refine⟨λg=>g.1,λg=>⟨g,?_⟩⟩
     have:=((holdE_calc h4 h3).1 ha).2
     rw [hdr,u6 g h3 (List.all_eq_true.1 h12)] at this;simpa using this
    ·cases h
  ·rw [if_neg (by rintro⟨_,g,_⟩;exact h12 g)] at h;simp only [Option.some.injEq] at h;subst h;refine⟨rfl,λa _=>Iff.rfl,?_,λa ha=>ha⟩
   have hnf:¬ b9 (bm e) l=true:=by
    unfold b9;rw [decide_eq_false (by omega),Cb,Ad];rintro⟨_,g⟩;apply h12;rw [Bg] at g ⊢;intro t ht;rw [<- qr];exact g t ht
   unfold k9;rw [if_neg hnf]
 ·rw [if_neg (by rintro⟨g,_⟩;exact h4 g)] at h;simp only [Option.some.injEq] at h;subst h;rw [if_neg h4];exact⟨rfl,λa _=>Iff.rfl,rfl,λa ha=>ha⟩
theorem recL_none {S:List Fct} {e:RE} {l:Ltl} (hok:okL S e.length l) (h:rf e l=none) (a:List Int) (ha:kb e a):holdE S l a=false:=by
 unfold rf at h;split at h
 ·rename_i hc;obtain⟨h4,h12,_⟩:=hc;split at h
  ·cases h
  ·rename_i hn;have h3:=hok.calc3 h4;cases hh:holdE S l a with
   | false=>rfl
   | true =>
    have:=((holdE_calc h4 h3).1 hh).1
    rw [u6 ha h3 (List.all_eq_true.1 h12)] at this;exact absurd this hn
 ·cases h
def ta (body:List Ltl):List Ltl:=body.filter λl=>decide (l.kind=4)
theorem calcs_round (l:Ltl) (body:List Ltl) (bs:List Bool):ik (ta (l::body)) bs=ik (ta body) (if l.kind=4 then k9 bs l else bs):=by
 unfold ta;rw [Db];by_cases h:l.kind=4
 ·simp only [h,decide_true,if_true];rfl
 ·simp only [h,decide_false,if_false];rfl
theorem yr {S:List Fct}:∀ {body:List Ltl} {e e':RE},(∀ l∈body,okL S e.length l)->tz body e=some e' ->
  e'.length=e.length/\(∀ a,(∀ l∈body,holdE S l a=true)->(kb e' a↔kb e a))/\bm e'=ik (ta body) (bm e)/\∀ a,kb e' a->kb e a
 | [],e,e',_,h=>by
  simp only [tz,Hm] at h
  cases h
  exact⟨rfl,λa _=>Iff.rfl,rfl,λa ha=>ha⟩
 | l::body,e,e',hok,h=>by
  simp only [tz,Eu] at h
  cases h1:rf e l with
  | none=>rw [h1] at h;cases h
  | some e1 =>
   rw [h1] at h
   obtain⟨g1,g2,g3,g4⟩:=yt (hok l (Ae ..)) h1
   obtain⟨k1,k2,k3,k4⟩:=yr (body:=body) (e:=e1) (λx hx=>by rw [g1];exact hok x (Ah _ hx)) h
   refine⟨k1.trans g1,λa ha=>?_,by rw [k3,g3,calcs_round],λa ha=>g4 a (k4 a ha)⟩
   rw [k2 a λx hx=>ha x (Ah _ hx),g2 a (ha l (Ae ..))]
theorem recP_none {S:List Fct}:∀ {body:List Ltl} {e:RE},(∀ l∈body,okL S e.length l)->tz body e=none->∀ a,kb e a->¬ ∀ l∈body,holdE S l a=true
 | [],e,_,h,_,_,_=>by simp [tz] at h
 | l::body,e,hok,h,a,ha,hall=>by
  simp only [tz,Eu] at h
  cases h1:rf e l with
  | none =>
   have:=recL_none (hok l (Ae ..)) h1 a ha
   rw [hall l (Ae ..)] at this;cases this
  | some e1 =>
   rw [h1] at h
   obtain⟨g1,g2,_,_⟩:=yt (hok l (Ae ..)) h1
   exact recP_none (body:=body) (e:=e1) (λx hx=>by rw [g1];exact hok x (Ah _ hx)) h a ((g2 a (hall l (Ae ..))).2 ha) λx hx=>hall x (Ah _ hx)
theorem nz {S:List Fct} {body:List Ltl}:∀ {n:Nat} {e e':RE},(∀ l∈body,okL S e.length l)->o0 body n e=some e' ->
  e'.length=e.length/\(∀ a,(∀ l∈body,holdE S l a=true)->(kb e' a↔kb e a))/\bm e'=e9 (ta body) n (bm e)/\∀ a,kb e' a->kb e a
 | 0,e,e',_,h=>by
  simp only [o0,Option.some.injEq] at h
  subst h
  exact⟨rfl,λa _=>Iff.rfl,rfl,λa ha=>ha⟩
 | n+1,e,e',hok,h=>by
  rw [o0,D4] at h
  obtain⟨e1,h1,h2⟩:=h
  obtain⟨g1,g2,g3,g4⟩:=yr hok h1
  obtain⟨k1,k2,k3,k4⟩:=nz (λx hx=>by rw [g1];exact hok x hx) h2
  refine⟨k1.trans g1,λa ha=>by rw [k2 a ha,g2 a ha],by rw [k3,g3];rfl,λa ha=>g4 a (k4 a ha)⟩
theorem recN_none {S:List Fct} {body:List Ltl}:∀ {n:Nat} {e:RE},(∀ l∈body,okL S e.length l)->o0 body n e=none->∀ a,kb e a->¬ ∀ l∈body,holdE S l a=true
 | 0,e,_,h,_,_,_=>by simp [o0] at h
 | n+1,e,hok,h,a,ha,hall=>by
  rw [o0] at h
  cases h1:tz body e with
  | none=>exact recP_none hok h1 a ha hall
  | some e1 =>
   rw [h1] at h
   obtain⟨g1,g2,_,_⟩:=yr hok h1
   exact recN_none (λx hx=>by rw [g1];exact hok x hx) h a ((g2 a hall).2 ha) hall
theorem recN_closed {S:List Fct} {body:List Ltl} {e e':RE} (hok:∀ l∈body,okL S e.length l) (h:o0 body (body.length+1) e=some e'):zi (ta body) (bm e'):=by
 obtain⟨_,_,h3,_⟩:=nz hok h;have hsub:∀ l∈ta body,l∈body:=λl hl=>(List.mem_filter.1 hl).1
 have hokT:∀ l∈ta body,∀ t∈dq l,okT (bm e).length t:=by
  intro l hl t ht;rw [cg];refine (hok l (hsub l hl)).terms t ?_;unfold dq at ht;split at ht
  ·exact ht
  ·exact Bv ht
 have hle:(ta body).length<=body.length:=List.length_filter_le _ _;have hr:=bRound_rest hokT;have hfix:ik (ta body) (bm e')=bm e':=by
  obtain⟨d,hd⟩:=Nat.exists_eq_add_of_le (show (ta body).length<=body.length+1 by omega);rw [h3,hd,zk,zj hr,hr]
 intro l hl hf t ht;rw [<- hfix];exact ye (λl hl t ht=>by
  have:=hokT l hl t ht
  rw [cg] at this ⊢;rw [(nz hok h).1];exact this) l hl hf t ht
theorem wrong_false {S:List Fct} {body:List Ltl} {e:RE} {a:List Int} (ha:kb e a) (hall:∀ l∈body,holdE S l a=true):nv S body e=false:=by
 unfold nv;rw [List.any_eq_false];intro l hl hc;rw [Ad,Bg] at hc;have:=holdE_same (S:=S) ha hc.1
 rw [hall l hl] at this;rw [<- this] at hc;exact absurd hc.2 (by simp)
theorem fromE_spec (S:List Fct) (hS:S.Nodup) (body:List Ltl):∀ (ys:List Ltl) (e:RE),(∀ l∈ys,l∈body/\l.kind=1)->(∀ l∈body,okL S e.length l)->Bd body (bm e)->(∀ l∈body,l.kind=1->l∈ys∨∀ t∈l.terms,isT (bm e) t=true) ->
  (∀ a,a∈dt S body ys e↔kb e a/\∀ l∈body,holdE S l a=true)/\(dt S body ys e).Nodup
 | [],e,_,hok,hB,hy=>by
  rw [dt];cases hr:o0 body (body.length+1) e with
  | none=>exact⟨λa=>⟨λh=>by simp at h,fun⟨h1,h2⟩=>absurd h2 (recN_none hok hr a h1)⟩,.nil⟩
  | some e' =>
   simp only;obtain⟨g1,g2,g3,g4⟩:=nz hok hr;have hcl:=recN_closed hok hr;have hle:leB (bm e) (bm e'):=by
    rw [g3];have:∀ n bs,leB bs (e9 (ta body) n bs):=by
     intro n;induction n with
     | zero=>intro bs;exact leB.refl _
     | succ n ih=>intro bs;exact (tc _ _).trans (ih _)
    exact this _ _
   have hfull:∀ v,v<(bm e').length->(bm e').getD v false=true:=by
    refine hB _ hle λl hl hf t ht=>?_
    by_cases h1:l.kind=1
    ·have hl1:dq l=l.terms:=by unfold dq;rw [if_pos h1]
     rw [hl1] at ht;rcases hy l hl h1 with h|h
     ·simp at h
     ·exact sr hle (h t ht)
    ·have h4:l.kind=4:=by
      unfold b9 at hf;rw [decide_eq_false h1,Cb,Ad] at hf;exact of_decide_eq_true hf.1
     exact hcl l (List.mem_filter.2 ⟨hl,decide_eq_true h4⟩) hf t ht
   have hsome:∀ l∈body,∀ t∈l.terms,(vOf e' t).isSome=true:=λl hl t ht=>full_some hfull (by rw [g1];exact (hok l hl).terms t ht)
   split
   ·rename_i hw;refine⟨λa=>⟨λh=>by simp at h,fun⟨h1,h2⟩=>?_⟩,.nil⟩
    rw [wrong_false ((g2 a h2).2 h1) h2] at hw;cases hw
   ·rename_i hw;refine⟨λa=>?_,List.nodup_cons.2 ⟨by simp,.nil⟩⟩
    rw [A5];constructor
    ·rintro rfl;have hx:=(full_out hfull (bl e')).2 rfl;refine⟨g4 _ hx,λl hl=>?_⟩
     cases hh:holdE S l (bl e') with
     | true=>rfl
     | false =>
      exfalso;apply hw;unfold nv;rw [List.any_eq_true];exact⟨l,hl,by rw [hh,Ad,Bg];exact⟨λt ht=>hsome l hl t ht,rfl⟩⟩
    ·rintro⟨h1,h2⟩;exact (full_out hfull a).1 ((g2 a h2).2 h1)
 | l::ys,e,hys,hok,hB,hy=>by
  rw [dt];cases hr:o0 body (body.length+1) e with
  | none=>exact⟨λa=>⟨λh=>by simp at h,fun⟨h1,h2⟩=>absurd h2 (recN_none hok hr a h1)⟩,.nil⟩
  | some e' =>
   simp only;obtain⟨g1,g2,g3,g4⟩:=nz hok hr;have hle:leB (bm e) (bm e'):=by
    rw [g3];have:∀ n bs,leB bs (e9 (ta body) n bs):=by
     intro n;induction n with
     | zero=>intro bs;exact leB.refl _
     | succ n ih=>intro bs;exact (tc _ _).trans (ih _)
    exact this _ _
   obtain⟨hl,hl1⟩:=hys l (Ae ..);have hlit:dq l=l.terms:=by unfold dq;rw [if_pos hl1]
   split
   ·rename_i hw;refine⟨λa=>⟨λh=>by simp at h,fun⟨h1,h2⟩=>?_⟩,.nil⟩
    rw [wrong_false ((g2 a h2).2 h1) h2] at hw;cases hw
   ·have ih:∀ e'',e''.length=e'.length->leB (bm e') (bm e'')->((∀ t∈dq l,isT (bm e'') t=true)∨∀ ds,b9 ds l=false)->(∀ a,a∈dt S body ys e''↔kb e'' a/\∀ l∈body,holdE S l a=true)/\(dt S body ys e'').Nodup:=by
     intro e'' k1 k2 k3;refine fromE_spec S hS body ys e'' (λx hx=>hys x (Ah _ hx)) (λx hx=>by rw [k1,g1];exact hok x hx) (λcs c1 c2=>hB cs ((hle.trans k2).trans c1) c2) λx hx hx1=>?_
     rcases hy x hx hx1 with h|h
     ·rcases List.mem_cons.1 h with rfl|h
      ·right;rcases k3 with k3|k3
       ·rw [hlit] at k3;exact k3
       ·have:=k3 []
        unfold b9 at this;rw [decide_eq_true hl1] at this;simp at this
      ·exact .inl h
     ·exact .inr λt ht=>sr (hle.trans k2) (h t ht)
    have hok':okL S e'.length l:=by rw [g1];exact hok l hl
    refine⟨λa=>?_,litW_nodup hS hok' λe'' k1 k2 k3=>⟨(ih e'' k1 k2 k3).2,λa ha=>(((ih e'' k1 k2 k3).1 a).1 ha).1⟩⟩
    rw [litW_mem (P:=λa=>∀ l∈body,holdE S l a=true) hok' (.inr hl1) a λe'' k1 k2 k3=>(ih e'' k1 k2 k3).1 a];constructor
    ·rintro⟨⟨h1,_⟩,h2⟩;exact⟨(g2 a h2).1 h1,h2⟩
    ·rintro⟨h1,h2⟩;exact⟨⟨(g2 a h2).2 h1,h2 l hl⟩,h2⟩
variable [Bnds]
def cx (a:List Int):List D:=[.slice 1 (a.map ah)]
structure okB (S:List Fct) (v:Nat) (body:List Ltl):Prop where
 lit:∀ l∈body,okL S v l
 op:∀ l∈body,l.kind=3->1<=l.op/\l.op<=4
 nums:∀ l∈body,∀ t∈l.terms,-1000000<=t.n/\t.n<=1000000
 facts:∀ x∈S,∀ y∈x.args,-1000000<=y/\y<=1000000
 len:body.length<=4
 vle:v<=8
 tlen:∀ l∈body,l.terms.length<=3
def pj (e:RE):Prop:=∀ (v:Nat) (x:Int),e[v]?=some (some x)->-1000000<=x/\x<=1000000
theorem vA_num {e:RE} (h:pj e) {t:Trm} (ht:-1000000<=t.n/\t.n<=1000000):-1000000<=vA (bl e) t/\vA (bl e) t<=1000000:=by
 unfold vA bl;split
 ·exact ht
 ·rw [List.getD,List.getElem?_map];cases hx:e[t.var.toNat]? with
  | none=>simp
  | some y =>
   cases y with
   | none=>simp
   | some z=>simpa using h _ _ hx
theorem all_isT (e:RE) (l:List Trm):l.all (isT (bm e))=l.all λt=>(vOf e t).isSome:=by
 congr 1;funext t;exact qr e t
abbrev fndB (r:Rul) (S:List Fct) (o:SV) (m:Bool):HB:=.blk 214 [.d (.int .i64 r.pred),.d (.slice 2 (r.terms.map aw)),.d (.int .i64 r.fold),.d (.slice 4 (r.body.map ay)),.d (.int .i64 r.vars),.d (.slice 2 (S.map aa)),o,.d (.bool m)]
abbrev rh (r:Rul) (S:List Fct) (out:List (List Int)) (m:Bool):Hp:=[(0,fndB r S (.row 1) m),(1,.row 22 1 (out.map cx))]
theorem fwrong_fn (r:Rul) (S:List Fct) (out:List (List Int)) (m:Bool) (e:RE) (hok:okB S e.length r.body) (hn:pj e) :
  FnOk false Tryz.prog tab bp 218 [.loc 0 0,.d (.slice 1 ((bl e).map ah)),.d (.slice 1 ((bm e).map bz))] 2 2 (rh r S out m) (λ_ res H=>res = .d (.bool (nv S r.body e))/\H=rh r S out m):=by
 refine frE Tryz.func218 ?_;intro O w0 E0 β0;have lb:(r.body.map ay).length=r.body.length:=Aa _;have hb4:=hok.len;repeat' (first|refine zs ?_|fail)
 refine ak (ι:=Nat) (λi=>⟨2,[(0,.loc 0 0),(1,.d (.slice 1 ((bl e).map ah))),(2,.d (.slice 1 ((bm e).map bz))),(7,.d (.int .i64 i))],rh r S out m⟩)
  (λi=>i<=r.body.length/\nv S r.body e=nv S (r.body.drop i) e) (λi=>r.body.length-i) 0 ⟨Ai _,rfl⟩ (er id) ?_
 rintro i ⟨g1,g2⟩;dsimp only at g1 g2 ⊢;by_cases hi:i<r.body.length
 ·have hm:=Ag hi;have ho:=hok.lit _ hm;have hlen:=hok.tlen _ hm;have w1:=isReady_fn r.body[i].terms (bm e) (by rw [cg];exact ho.terms);rw [all_isT] at w1;have w2:=litHolds_fn S r.body[i] (bl e) (by rw [dn];exact ho) (hok.op _ hm) (λ_ t ht=>vA_num hn (hok.nums _ hm t ht)) (by omega);have hst:nv S (r.body.drop i) e=((r.body[i].terms.all (λt=>(vOf e t).isSome) && !holdE S r.body[i] (bl e)) || nv S (r.body.drop (i+1)) e):=by
   unfold nv;rw [Ao hi,List.any_cons]
  rw [hst] at g2;cases hr:r.body[i].terms.all (λt=>(vOf e t).isSome) with
  | false =>
   rw [hr] at w1 g2;rw [Bool.false_and,Cb] at g2;repeat' (first|refine zr ?_|refine z22 ?_ (hc:=by apply w1)|(refine zm ?_ ?_<;>intro hg)|(exfalso;omega))
   exact⟨i+1,⟨hi,g2⟩,er id,by omega⟩
  | true =>
   rw [hr] at w1 g2;rw [Bo] at g2;cases hh:holdE S r.body[i] (bl e) with
   | false =>
    rw [hh] at w2 g2;rw [Bool.not_false,Bool.true_or] at g2;rw [g2];repeat' (first|refine zr ?_|refine z22 ?_ (hc:=by apply w1)|refine z22 ?_ (hc:=by apply w2)|(refine zm ?_ ?_<;>intro hg)|(exfalso;omega))
    exact⟨.inl rfl,_,rfl,kp id 2 _ (rh r S out m) ⟨rfl,rfl⟩⟩
   | true =>
    rw [hh] at w2 g2;rw [Bool.not_true,Cb] at g2;repeat' (first|refine zr ?_|refine z22 ?_ (hc:=by apply w1)|refine z22 ?_ (hc:=by apply w2)|(refine zm ?_ ?_<;>intro hg)|(exfalso;omega))
    exact⟨i+1,⟨hi,g2⟩,er id,by omega⟩
 ·rw [Ax (by omega)] at g2;rw [g2];repeat' (first|refine zr ?_|(refine zm ?_ ?_<;>intro hg)|(exfalso;omega))
  exact⟨.inl rfl,_,rfl,kp id 2 _ (rh r S out m) ⟨rfl,rfl⟩⟩
variable [Bnds]
theorem numE_set {e:RE} (h:pj e) {v:Nat} {n:Int} (hn:numB n=true):pj (e.set v (some n)):=by
 intro u x hx;by_cases hq:v=u
 ·subst hq;by_cases hl:v<e.length
  ·rw [By hl] at hx;simp at hx;subst hx;exact numB_iff.1 hn
  ·rw [List.getElem?_eq_none (by rw [A3];omega)] at hx;cases hx
 ·rw [Cf hq] at hx;exact h u x hx
theorem recL_num {S:List Fct} {e e':RE} {l:Ltl} (hok:okL S e.length l) (hn:pj e) (h:rf e l=some e'):pj e':=by
 unfold rf at h;split at h
 ·rename_i hc;split at h
  ·rename_i hb;obtain⟨t1,t2,t3,hT⟩:=drop2 (hok.calc3 hc.1);rw [hT] at h;simp only [E6,D5,A2,Fe,Option.some.injEq] at h;subst h;exact numE_set hn hb
  ·cases h
 ·simp only [Option.some.injEq] at h;subst h;exact hn
theorem outE_set (e:RE) (v:Nat) (x:Int):bl (e.set v (some x))=(bl e).set v x:=by unfold bl;rw [Dc];rfl
theorem hasE_set (e:RE) (v:Nat) (x:Int):bm (e.set v (some x))=(bm e).set v true:=by unfold bm;rw [Dc];rfl
theorem recP_step {body:List Ltl} {i:Nat} (hi:i<body.length) (e:RE):tz (body.drop i) e=(rf e body[i]).bind (tz (body.drop (i+1))):=by
 unfold tz;rw [Ao hi,Eu];rfl
theorem recN_step (body:List Ltl) {n k:Nat} (h:n<k) (e:RE):o0 body (k-n) e=(tz body e).bind (o0 body (k-(n+1))):=by
 rw [show k-n=(k-(n+1))+1 by omega];rfl
abbrev rkH (r:Rul) (S:List Fct) (out:List (List Int)) (m:Bool) (e:RE):Hp:=[(0,fndB r S (.row 3) m),(1,.row 3 1 ((bl e).map ah)),(2,.row 4 1 ((bm e).map bz)),(3,.row 22 1 (out.map cx))]
def RkR (r:Rul) (S:List Fct) (out:List (List Int)) (m:Bool) (o:Option RE) (res:SV) (H:Hp):Prop:=match o with
 | some e'=>res = .d (.bool true)/\H=rkH r S out m e'
 | none=>res = .d (.bool false)/\∃ e',H=rkH r S out m e'
theorem recL_other {e:RE} {l:Ltl} (h:l.kind≠4):rf e l=some e:=by unfold rf;rw [if_neg (λg=>h g.1)]
theorem recL_not12 {e:RE} {op pred:Int} {t1 t2 t3:Trm} (h:[t1,t2].all (isT (bm e))=false):rf e ⟨4,op,pred,[t1,t2,t3]⟩=some e:=by
 rw [all_isT] at h;unfold rf;rw [if_neg (λg=>by have:=g.2.1;simp only [List.take_succ_cons,Hr] at this;rw [h] at this;cases this)]
theorem recL_is3 {e:RE} {op pred:Int} {t1 t2 t3:Trm} (h:[t3].all (isT (bm e))=true):rf e ⟨4,op,pred,[t1,t2,t3]⟩=some e:=by
 rw [all_isT] at h;unfold rf;rw [if_neg (λg=>by have:=g.2.2;simp only [E6,D5] at this;rw [h] at this;cases this)]
theorem recL_new {e:RE} {op pred:Int} {t1 t2 t3:Trm} (h:[t1,t2].all (isT (bm e))=true) (h3:[t3].all (isT (bm e))=false):rf e ⟨4,op,pred,[t1,t2,t3]⟩=if numB (mu op (vA (bl e) t1) (vA (bl e) t2)) then some (e.set t3.var.toNat (some (mu op (vA (bl e) t1) (vA (bl e) t2)))) else none:=by
 rw [all_isT] at h h3;unfold rf;rw [if_pos ⟨rfl,by simpa using h,by simpa using h3⟩];rfl
theorem reckon_fn (r:Rul) (S:List Fct) (out:List (List Int)) (m:Bool) (e:RE) (hok:okB S e.length r.body) (hn:pj e) :
  FnOk false Tryz.prog tab bp 217 [.loc 0 0,.row 1,.row 2] 4 4 (rkH r S out m e) (λ_ res H=>RkR r S out m (o0 r.body (r.body.length+1) e) res H):=by
 refine frE Tryz.func217 ?_;intro O w0 E0 β0;have lb:(r.body.map ay).length=r.body.length:=Aa _;have hb4:=hok.len;repeat' (first|refine zs ?_|fail)
 refine ak (ι:=Nat×RE) (λx=>⟨4,[(0,.loc 0 0),(1,.row 1),(2,.row 2),(7,.d (.int .i64 x.1))],rkH r S out m x.2⟩)
  (λx=>x.1<=r.body.length+1/\x.2.length=e.length/\pj x.2/\o0 r.body (r.body.length+1) e=o0 r.body (r.body.length+1-x.1) x.2) (λx=>r.body.length+1-x.1) (0,e) ⟨Ai _,rfl,hn,rfl⟩ (er id) ?_
 rintro⟨n,e1⟩ ⟨g1,g2,g3,g4⟩;dsimp only at g1 g2 g3 g4 ⊢;by_cases hnn:n<r.body.length+1
 ·rw [recN_step r.body hnn] at g4;repeat' (first|refine zr ?_|(refine zm ?_ ?_<;>intro hg)|(exfalso;omega))
  refine ak (ι:=Nat×RE) (λx=>⟨4,[(0,.loc 0 0),(1,.row 1),(2,.row 2),(7,.d (.int .i64 n)),(8,.d (.int .i64 x.1))],rkH r S out m x.2⟩)
   (λx=>x.1<=r.body.length/\x.2.length=e.length/\pj x.2/\tz r.body e1=tz (r.body.drop x.1) x.2) (λx=>r.body.length-x.1) (0,e1) ⟨Ai _,g2,g3,rfl⟩ (er id) ?_
  rintro⟨i,e2⟩ ⟨f1,f2,f3,f4⟩;dsimp only at f1 f2 f3 f4 ⊢;by_cases hi:i<r.body.length
  ·have hm:=Ag hi;have ho:=hok.lit _ hm;rw [<- f2] at ho;have hlen:=hok.tlen _ hm;have hnum:=hok.nums _ hm;rw [recP_step hi] at f4;repeat' ((fail_if_success (apply cp 8));(first|refine zs ?_|(refine zm ?_ ?_<;>intro hg)|fail))
   all_goals try (exfalso;omega)
   refine au (ag (k':=5) (L':=[(0,.loc 0 0),(1,.row 1),(2,.row 2),(7,.d (.int .i64 n)),(8,.d (.int .i64 i)),(9,.loc 4 0)]) (H':=(4,litB r.body[i])::rkH r S out m e2) id ⟨rfl,rfl,rfl,rfl,rfl,rfl,trivial⟩ ⟨rfl,rfl,rfl,rfl,rfl,trivial⟩ rfl rfl rfl rfl rfl rfl) ?_;generalize r.body[i]=l at ho hlen hnum f4 ⊢;clear hm;have hk:=ho.kind;have hT:=ho.terms;have h3:=ho.calc3;have hrn:∀ e',rf e2 l=some e'->e'.length=e.length/\pj e':=λe' h=>⟨(yt ho h).1.trans f2,recL_num ho f3 h⟩
   clear ho;obtain⟨kind,op,pred,terms⟩:=l;dsimp only at hk hT h3 hlen hnum;by_cases h4:kind=4
   ·subst h4;match terms,h3 rfl with
    | [t1,t2,t3],_ =>
     have hT12:∀ t∈[t1,t2],okT (bm e2).length t:=λt ht=>by rw [cg];exact hT t (by simp at ht ⊢;rcases ht with rfl|rfl<;>simp)
     have hT3:∀ t∈[t3],okT (bm e2).length t:=λt ht=>by rw [cg];exact hT t (by simp at ht ⊢;subst ht;simp)
     have w1:=isReadyR_fn [t1,t2] (bm e2) hT12;have w2:=isReadyR_fn [t3] (bm e2) hT3;repeat' (first|(apply nr;exact rfl;exact rfl;exact rfl;exact rfl;exact rfl;exact rfl;(refine⟨?_,?_,?_⟩<;>(first|omega|(simp only [Aa];omega)));((with_reducible apply ni);(exact bg _));exact rfl;exact rfl)|refine zs ?_|fail)
     cases h12:[t1,t2].all (isT (bm e2)) with
     | false =>
      rw [h12] at w1;rw [recL_not12 h12] at f4;refine bk (λj=>match j with|0=>2|j=>j) w1 rfl rfl rfl rfl ⟨rfl,trivial⟩ rfl rfl rfl rfl rfl rfl ?_ ?_
      ·rintro k2 res H2 ⟨rfl,rfl⟩;exact⟨rfl,rfl⟩
      rintro k2 res H2 ⟨rfl,rfl⟩;change DS _ _ _ _ _ _ _ _;repeat' (first|refine zs ?_|(exfalso;omega))
      exact⟨(i+1,e2),⟨by dsimp only;omega,f2,f3,f4⟩,er id,by show r.body.length-(i+1)<r.body.length-i;omega⟩
     | true =>
      rw [h12] at w1;refine bk (λj=>match j with|0=>2|j=>j) w1 rfl rfl rfl rfl ⟨rfl,trivial⟩ rfl rfl rfl rfl rfl rfl ?_ ?_
      ·rintro k2 res H2 ⟨rfl,rfl⟩;exact⟨rfl,rfl⟩
      rintro k2 res H2 ⟨rfl,rfl⟩;change DS _ _ _ _ _ _ _ _;repeat' (first|(apply nr;exact rfl;exact rfl;exact rfl;exact rfl;exact rfl;exact rfl;(refine⟨?_,?_,?_⟩<;>(first|omega|(simp only [Aa];omega)));((with_reducible apply hv_drop);(exact bg _));exact rfl;exact rfl)|refine zs ?_|(exfalso;omega))
      cases h33:[t3].all (isT (bm e2)) with
      | true =>
       rw [h33] at w2;rw [recL_is3 h33] at f4;refine bk (λj=>match j with|0=>2|j=>j) w2 rfl rfl rfl rfl ⟨rfl,trivial⟩ rfl rfl rfl rfl rfl rfl ?_ ?_
       ·rintro k2 res H2 ⟨rfl,rfl⟩;exact⟨rfl,rfl⟩
       rintro k2 res H2 ⟨rfl,rfl⟩;change DS _ _ _ _ _ _ _ _;repeat' (first|refine zs ?_|(exfalso;omega))
       exact⟨(i+1,e2),⟨by dsimp only;omega,f2,f3,f4⟩,er id,by show r.body.length-(i+1)<r.body.length-i;omega⟩
      | false =>
       rw [h33] at w2;have hnew:=recL_new (op:=op) (pred:=pred) h12 h33;refine bk (λj=>match j with|0=>2|j=>j) w2 rfl rfl rfl rfl ⟨rfl,trivial⟩ rfl rfl rfl rfl rfl rfl ?_ ?_
       ·rintro k2 res H2 ⟨rfl,rfl⟩;exact⟨rfl,rfl⟩
       rintro k2 res H2 ⟨rfl,rfl⟩;change DS _ _ _ _ _ _ _ _;repeat' (first|(apply nr;exact rfl;exact rfl;exact rfl;exact rfl;exact rfl;exact rfl;(refine⟨?_,?_,?_⟩<;>(first|omega|(simp only [Aa];omega)));((with_reducible apply ni);(exact bg _));exact rfl;exact rfl)|refine zs ?_|(exfalso;omega))
       have n1:=vA_num f3 (hnum t1 (by simp));have n2:=vA_num f3 (hnum t2 (by simp));have w3:=argsOfR_fn [t1,t2] (bl e2) (λt ht=>by rw [dn];exact hT t (by simp at ht ⊢;rcases ht with rfl|rfl<;>simp)) (by simp);simp only [A7,Dh] at w3;generalize hx:vA (bl e2) t1=x at n1 w3 hnew;generalize hy:vA (bl e2) t2=y at n2 w3 hnew;have w4:=calcOf_fn op x y n1 n2;have w5:=kh (mu op x y);refine bk (λj=>match j with|0=>1|j=>j) w3 rfl rfl rfl rfl ⟨rfl,trivial⟩ rfl rfl rfl rfl rfl rfl ?_ ?_
       ·rintro k2 res H2 ⟨rfl,rfl⟩;exact⟨rfl,rfl⟩
       rintro k2 res H2 ⟨rfl,rfl⟩;change DS _ _ _ _ _ _ _ _;have hv3:0<=t3.var/\t3.var<e2.length:=by
        have ht3:=hT t3 (by simp);unfold okT at ht3;refine⟨?_,ht3⟩
        simp only [List.all_cons,List.all_nil,Bool.and_true] at h33;unfold isT at h33;simp only [Bool.or_eq_false_iff,decide_eq_false_iff_not] at h33;omega
       have lo:((bl e2).map ah).length=e2.length:=by rw [Aa,dn]
       have lh:((bm e2).map bz).length=e2.length:=by rw [Aa,cg]
       cases hb:numB (mu op x y) with
       | false =>
        rw [hb] at w5 hnew;have hnew:rf e2 ⟨4,op,pred,[t1,t2,t3]⟩=none:=hnew;rw [hnew] at f4;have f4':tz r.body e1=none:=f4;rw [f4'] at g4;have g4':o0 r.body (r.body.length+1) e=none:=g4;rw [g4'];repeat' (first|refine zr ?_|refine z22 ?_ (hc:=by apply w4)|refine z21 ?_ (hc:=by apply w5)|(exfalso;omega))
        exact⟨.inl rfl,_,rfl,kp id 4 _ (rkH r S out m e2) ⟨rfl,e2,rfl⟩⟩
       | true =>
        rw [hb] at w5 hnew;have hnew:rf e2 ⟨4,op,pred,[t1,t2,t3]⟩=some (e2.set t3.var.toNat (some (mu op x y))):=hnew;obtain⟨q1,q2⟩:=hrn _ hnew;rw [hnew] at f4;repeat' (first|refine z0 ?_|apply jj|(apply ke;exact rfl;exact rfl;(apply ig;(omega));exact rfl;exact rfl;(exact j9 rfl);exact rfl;exact rfl;exact rfl;exact rfl;exact rfl;exact rfl)|refine zs ?_|refine z22 ?_ (hc:=by apply w4)|refine z21 ?_ (hc:=by apply w5)|(exfalso;omega))
        have o1:=outE_set e2 t3.var.toNat (mu op x y);have o2:=hasE_set e2 t3.var.toNat (mu op x y);exact⟨(i+1,e2.set t3.var.toNat (some (mu op x y))),⟨by dsimp only;omega,q1,q2,f4⟩,ag id ⟨rfl,rfl,rfl,rfl,rfl,trivial⟩ ⟨rfl,by rw [o1];rfl,by rw [o2];rfl,rfl,trivial⟩ rfl rfl rfl rfl rfl rfl,by show r.body.length-(i+1)<r.body.length-i;omega⟩
   ·have hr:=recL_other (e:=e2) (l:=⟨kind,op,pred,terms⟩) h4;rw [hr] at f4;repeat' (first|refine zs ?_|(refine zm ?_ ?_<;>intro hg)|(exfalso;omega))
    all_goals try (exfalso;exact hg h4)
    exact⟨(i+1,e2),⟨by dsimp only;omega,f2,f3,f4⟩,er id,by show r.body.length-(i+1)<r.body.length-i;omega⟩
  ·rw [Ax (by omega)] at f4;have f4':tz r.body e1=some e2:=f4;rw [f4'] at g4;repeat' (first|(apply nr;exact rfl;exact rfl;exact rfl;exact rfl;exact rfl;exact rfl;(refine⟨?_,?_,?_⟩<;>(omega));((with_reducible apply ni);(exact bg _));exact rfl;exact rfl)|refine zs ?_|(refine zm ?_ ?_<;>intro hg)|(exfalso;omega))
   exact⟨(n+1,e2),⟨by dsimp only;omega,f2,f3,g4⟩,er id,by show r.body.length+1-(n+1)<r.body.length+1-n;omega⟩
 ·have hz:r.body.length+1-n=0:=by omega
  rw [hz] at g4;have g4':o0 r.body (r.body.length+1) e=some e1:=g4;rw [g4'];repeat' (first|refine zr ?_|(refine zm ?_ ?_<;>intro hg)|(exfalso;omega))
  exact⟨.inl rfl,_,rfl,kp id 4 _ (rkH r S out m e1) ⟨rfl,rfl⟩⟩
variable [Bnds]
def pc (w:List (List Int)) (st:List (List Int)×Bool):List (List Int)×Bool:=if st.2 then st else (st.1++w.take (2000-st.1.length),decide (2000<st.1.length+w.length))
theorem tg (st:List (List Int)×Bool) (h:st.1.length<=2000):pc [] st=st:=by
 unfold pc;obtain⟨o,m⟩:=st;cases m with
 | true=>rfl
 | false=>simp only [List.take_nil,List.append_nil,Di,Nat.add_zero];rw [if_neg (by simp),decide_eq_false (by simpa using h)]
theorem addW_len (w:List (List Int)) (st:List (List Int)×Bool) (h:st.1.length<=2000):(pc w st).1.length<=2000:=by
 unfold pc;split
 ·exact h
 ·simp only [Ap,Au];omega
theorem addW_app (w1 w2:List (List Int)) (st:List (List Int)×Bool) (h:st.1.length<=2000):pc (w1++w2) st=pc w2 (pc w1 st):=by
 obtain⟨o,m⟩:=st;simp only at h;cases m with
 | true=>rfl
 | false =>
  unfold pc;simp only [Do,if_false];by_cases hb:2000<o.length+w1.length
  ·rw [decide_eq_true hb];simp only [if_true,Ap];rw [decide_eq_true (by omega),List.take_append_of_le_length (by omega)]
  ·rw [decide_eq_false hb];simp only [Do,if_false,Ap,Au];have h1:w1.take (2000-o.length)=w1:=List.take_of_length_le (by omega);rw [h1,List.take_append,h1,List.append_assoc];congr 2
   ·congr 2;omega
   ·have:min (2000-o.length) w1.length=w1.length:=by omega
    rw [this,Nat.add_assoc]
theorem addW_full {o:List (List Int)} (a:List Int) (h:o.length=2000):pc [a] (o,false)=(o,true):=by
 unfold pc;simp [h]
theorem addW_one {o:List (List Int)} (a:List Int) (h:o.length<2000):pc [a] (o,false)=(o++[a],false):=by
 unfold pc;simp only [Do,if_false,List.length_cons,Di];rw [decide_eq_false (by omega),show 2000-o.length=(1999-o.length)+1 by omega];simp
theorem addW_many (w:List (List Int)) (o:List (List Int)):pc w (o,true)=(o,true):=rfl
def re (body:List Ltl) (i:Nat):List Ltl:=(body.drop i).filter λl=>decide (l.kind=1)
theorem yesL_skip {body:List Ltl} {i:Nat} (hi:i<body.length) (h:body[i].kind≠1):re body i=re body (i+1):=by
 unfold re;rw [Ao hi,Db,if_neg (by simpa using h)]
theorem yesL_yes {body:List Ltl} {i:Nat} (hi:i<body.length) (h:body[i].kind=1):re body i=body[i]::re body (i+1):=by
 unfold re;rw [Ao hi,Db,if_pos (by simpa using h)]
theorem yesL_end {body:List Ltl} {i:Nat} (hi:body.length<=i):re body i=[]:=by unfold re;rw [List.drop_of_length_le hi];rfl
theorem recP_num {S:List Fct}:∀ {body:List Ltl} {e e':RE},(∀ l∈body,okL S e.length l)->pj e->tz body e=some e'->pj e'
 | [],e,e',_,hn,h=>by simp only [tz,Hm] at h;cases h;exact hn
 | l::body,e,e',hok,hn,h=>by
  simp only [tz,Eu] at h
  cases h1:rf e l with
  | none=>rw [h1] at h;cases h
  | some e1 =>
   rw [h1] at h
   have g1:=(yt (hok l (Ae ..)) h1).1
   exact recP_num (body:=body) (e:=e1) (λx hx=>by rw [g1];exact hok x (Ah _ hx)) (recL_num (hok l (Ae ..)) hn h1) h
theorem recN_num' {S:List Fct} {body:List Ltl}:∀ {n:Nat} {e e':RE},(∀ l∈body,okL S e.length l)->pj e->o0 body n e=some e'->pj e'
 | 0,e,e',_,hn,h=>by simp only [o0,Option.some.injEq] at h;subst h;exact hn
 | n+1,e,e',hok,hn,h=>by
  rw [o0,D4] at h
  obtain⟨e1,h1,h2⟩:=h
  have g1:=(yr hok h1).1
  exact recN_num' (λx hx=>by rw [g1];exact hok x hx) (recP_num hok hn h1) h2
theorem recN_num {S:List Fct} {body:List Ltl} {n:Nat} {e e':RE} (hok:okB S e.length body) (hn:pj e) (h:o0 body n e=some e'):pj e':=recN_num' hok.lit hn h
def gW (go:RE->List (List Int)) (l:Ltl) (e:RE) (x:Fct):List (List Int):=if x.pred=l.pred then (match ce e l.terms x.args with|some e'=>go e'|none=>[]) else []
theorem litW_yes {S:List Fct} {go:RE->List (List Int)} {l:Ltl} {e:RE} (h:l.kind=1):xn S go l e=S.flatMap (gW go l e):=by
 unfold xn;rw [if_pos h];congr 1
def ysW (S:List Fct) (body:List Ltl) (e:RE) (ys:List Ltl):List (List Int):=match ys with
 | []=>[bl e]
 | l::ys=>xn S (dt S body ys) l e
abbrev fctB (x:Fct):HB:=.blk 37 [.d (.int .i64 x.pred),.d (.slice 1 (x.args.map ah))]
def FromOk (r:Rul) (S:List Fct) (i:Nat):Prop:=∀ (e:RE) (out:List (List Int)) (m:Bool),okB S e.length r.body->pj e->out.length<=2000 ->
 FnOk false Tryz.prog tab bp 160 [.loc 0 0,.d (.int .i64 i),.d (.slice 1 ((bl e).map ah)),.d (.slice 1 ((bm e).map bz))] 1 2 (rh r S out m)
  (λk2 res H=>k2=2/\res = .tup []/\H=rh r S (pc (dt S r.body (re r.body i) e) (out,m)).1 (pc (dt S r.body (re r.body i) e) (out,m)).2)
theorem from_step (r:Rul) (S:List Fct) (hS:S.length<=4398046511104) (i:Nat) (hil:i<=r.body.length) (ih:∀ j,i<j->j<=r.body.length->FromOk r S j):FromOk r S i:=by
 intro e out m hok hn ho;refine frE Tryz.func160 ?_;intro O w0 E0 β0;have lb:(r.body.map ay).length=r.body.length:=Aa _;have hb4:=hok.len;have he8:=hok.vle;have lo:((bl e).map ah).length=e.length:=by rw [Aa,dn]
 have lh:((bm e).map bz).length=e.length:=by rw [Aa,cg]
 have lo':=dn e;have lh':=cg e;cases m with
 | true =>
  rw [addW_many];repeat' (first|refine zr ?_|fail)
  exact⟨.inl rfl,_,rfl,kp id 2 (.tup []) (rh r S out true) ⟨rfl,rfl,rfl⟩⟩
 | false =>
  repeat' (first|(apply uy;exact rfl;exact rfl;exact rfl;exact rfl;exact rfl;exact rfl;exact rfl;exact rfl)|((fail_if_success (apply cp 2));(first|refine zs ?_|fail)))
  refine au (ag (k':=4) (L':=[(0,.loc 0 0),(1,.d (.int .i64 i)),(2,.row 2),(3,.row 3)]) (H':=[(0,fndB r S (.row 1) false),(1,.row 22 1 (out.map cx)),(2,.row 3 1 ((bl e).map ah)),(3,.row 4 1 ((bm e).map bz))]) (λj=>match j with|2=>3|3=>5|j=>j) ⟨rfl,rfl,rfl,rfl,trivial⟩ ⟨rfl,rfl,rfl,rfl,trivial⟩ rfl rfl rfl rfl rfl rfl) ?_;have w:=reckon_fn r S out false e hok hn;cases hrec:o0 r.body (r.body.length+1) e with
  | none =>
   rw [hrec] at w;have hf:dt S r.body (re r.body i) e=[]:=by cases re r.body i<;>(unfold dt;rw [hrec])
   rw [hf,tg _ ho];repeat' (first|refine zs ?_|fail)
   refine bk (λj=>match j with|1=>2|2=>3|3=>1|j=>j) w rfl rfl rfl rfl ⟨rfl,rfl,rfl,rfl,trivial⟩ rfl rfl rfl rfl rfl rfl ?_ ?_
   ·rintro k2 res H2 ⟨rfl,e',rfl⟩;exact⟨rfl,rfl⟩
   rintro k2 res H2 ⟨rfl,e',rfl⟩;change DS _ _ _ _ _ _ _ _;repeat' (first|refine zr ?_|fail)
   exact⟨.inl rfl,_,rfl,kp id 2 (.tup []) (rh r S out false) ⟨rfl,rfl,rfl⟩⟩
  | some e1 =>
   rw [hrec] at w;obtain⟨q1,q2,_,_⟩:=nz hok.lit hrec;have hn1:pj e1:=recN_num hok hn hrec;rw [<- q1] at hok he8;have hf:dt S r.body (re r.body i) e=if nv S r.body e1 then [] else ysW S r.body e1 (re r.body i):=by
    cases re r.body i<;>(rw [dt,hrec];rfl)
   rw [hf];clear hf hrec q2 lo lh lo' lh' hn q1;have lo:((bl e1).map ah).length=e1.length:=by rw [Aa,dn]
   have lh:((bm e1).map bz).length=e1.length:=by rw [Aa,cg]
   have lo':=dn e1;have lh':=cg e1;repeat' (first|refine zs ?_|fail)
   refine bk (λj=>match j with|1=>2|2=>3|3=>1|j=>j) w rfl rfl rfl rfl ⟨rfl,rfl,rfl,rfl,trivial⟩ rfl rfl rfl rfl rfl rfl ?_ ?_
   ·rintro k2 res H2 ⟨rfl,rfl⟩;exact⟨rfl,rfl⟩
   rintro k2 res H2 ⟨rfl,rfl⟩;change DS _ _ _ _ _ _ _ _;refine jw (cr 2 rfl rfl rfl) ?_;refine jw (cr 3 rfl rfl rfl) ?_;have w2:=fwrong_fn r S out false e1 hok hn1;clear w;cases hwr:nv S r.body e1 with
   | true =>
    rw [hwr] at w2;rw [if_pos rfl,tg _ ho];repeat' refine z0 ?_
    (refine bk id (w2) rfl rfl rfl rfl ⟨rfl,rfl,trivial⟩ rfl rfl rfl rfl rfl rfl ?_ ?_)
    ·rintro k2 res H2 ⟨rfl,rfl⟩;exact⟨rfl,rfl⟩
    rintro k2 res H2 ⟨rfl,rfl⟩;change DS _ _ _ _ _ _ _ _;repeat' (first|refine zr ?_|fail)
    exact⟨.inl rfl,_,rfl,kp id 2 (.tup []) (rh r S out false) ⟨rfl,rfl,rfl⟩⟩
   | false =>
    rw [hwr] at w2;rw [if_neg (by simp)];repeat' refine z0 ?_
    (refine bk id (w2) rfl rfl rfl rfl ⟨rfl,rfl,trivial⟩ rfl rfl rfl rfl rfl rfl ?_ ?_)
    ·rintro k2 res H2 ⟨rfl,rfl⟩;exact⟨rfl,rfl⟩
    rintro k2 res H2 ⟨rfl,rfl⟩;change DS _ _ _ _ _ _ _ _;repeat' (first|refine zs ?_|fail)
    clear w2;refine ak (ι:=Nat) (λj=>⟨2,[(0,.loc 0 0),(1,.d (.int .i64 j)),(2,.d (.slice 1 ((bl e1).map ah))),(3,.d (.slice 1 ((bm e1).map bz)))],rh r S out false⟩)
     (λj=>i<=j/\j<=r.body.length/\re r.body i=re r.body j) (λj=>r.body.length-j) i ⟨Nat.le_refl _,hil,rfl⟩ (er id) ?_
    rintro j ⟨g1,g2,g3⟩;by_cases hj:j<r.body.length
    ·by_cases hk:r.body[j].kind=1
     ·have hy:=yesL_yes hj hk;repeat' (first|refine zr ?_|(refine zm ?_ ?_<;>intro hg)|(exfalso;omega))
      refine au (ag (k':=3) (L':=[(0,.loc 0 0),(1,.d (.int .i64 j)),(2,.d (.slice 1 ((bl e1).map ah))),(3,.d (.slice 1 ((bm e1).map bz))),(8,.loc 2 0),(9,.d (.int .i64 0))]) (H':=(2,litB r.body[j])::rh r S out false) id ⟨rfl,rfl,rfl,rfl,rfl,rfl,trivial⟩ ⟨rfl,rfl,rfl,trivial⟩ rfl rfl rfl rfl rfl rfl) ?_;have hlk:=hok.lit _ (Ag hj);have htl:=hok.tlen _ (Ag hj);have hrec:=ih (j+1) (by omega) (by omega);unfold FromOk at hrec;have hfm:ysW S r.body e1 (re r.body i)=S.flatMap (gW (dt S r.body (re r.body (j+1))) r.body[j] e1):=by rw [g3,hy];exact litW_yes hk
      rw [hfm];clear hfm hy g3;generalize dt S r.body (re r.body (j+1))=go at hrec ⊢;generalize r.body[j]=l at hk hlk htl ⊢;have ls:(S.map aa).length=S.length:=Aa _;refine ak (ι:=Nat) (λk=>⟨3,[(0,.loc 0 0),(1,.d (.int .i64 j)),(2,.d (.slice 1 ((bl e1).map ah))),(3,.d (.slice 1 ((bm e1).map bz))),(8,.loc 2 0),(9,.d (.int .i64 k))],(2,litB l)::rh r S (pc ((S.take k).flatMap (gW go l e1)) (out,false)).1 (pc ((S.take k).flatMap (gW go l e1)) (out,false)).2⟩)
       (λk=>k<=S.length) (λk=>S.length-k) 0 (Ai _) (ag id ⟨rfl,rfl,rfl,rfl,rfl,rfl,trivial⟩ (by rw [Hr,Hh,tg _ ho];exact⟨rfl,rfl,rfl,trivial⟩) rfl rfl rfl rfl rfl rfl) ?_
      intro k hks;have hok1:=addW_len ((S.take k).flatMap (gW go l e1)) (out,false) ho;have hwhole:pc (S.flatMap (gW go l e1)) (out,false)=pc ((S.drop k).flatMap (gW go l e1)) (pc ((S.take k).flatMap (gW go l e1)) (out,false)):=by rw [<- addW_app _ _ _ ho,<- Ej,Dx]
      have hstep:∀ hkl:k<S.length,pc ((S.take (k+1)).flatMap (gW go l e1)) (out,false)=pc (gW go l e1 S[k]) (pc ((S.take k).flatMap (gW go l e1)) (out,false)):=λhkl=>by rw [List.take_succ_eq_append_getElem hkl,Ej,addW_app _ _ _ ho];simp
      generalize hst:pc ((S.take k).flatMap (gW go l e1)) (out,false)=st at hok1 hwhole hstep ⊢;obtain⟨o2,m2⟩:=st;dsimp only at hok1 ⊢;clear hst;cases m2 with
      | true =>
       rw [hwhole,addW_many];repeat' (first|refine zs ?_|(refine zm ?_ ?_<;>intro hg)|(exfalso;omega))
       all_goals exact⟨.inr rfl,_,rfl,id,2,.tup [],rh r S o2 true,rfl,⟨rfl,rfl,trivial⟩,rfl,rfl,rfl,rfl,rfl,rfl,rfl,rfl,rfl⟩
      | false =>
       by_cases hkl:k<S.length
       ·have hstep:=hstep hkl;have hxf:=hok.facts _ (Ag hkl);have hxa:=hlk.facts hk _ (Ag hkl);repeat' ((fail_if_success (apply cp 14));(first|refine zs ?_|(refine zm ?_ ?_<;>intro hg)|fail))
        all_goals try (exfalso;omega)
        refine au (ag (k':=4) (L':=[(0,.loc 0 0),(1,.d (.int .i64 j)),(2,.d (.slice 1 ((bl e1).map ah))),(3,.d (.slice 1 ((bm e1).map bz))),(8,.loc 2 0),(9,.d (.int .i64 k)),(10,.loc 3 0)]) (H':=(3,fctB S[k])::(2,litB l)::rh r S o2 false) id ⟨rfl,rfl,rfl,rfl,rfl,rfl,rfl,trivial⟩ ⟨rfl,rfl,rfl,rfl,trivial⟩ rfl rfl rfl rfl rfl rfl) ?_;generalize S[k]=x at hstep hxf hxa ⊢;have lxa:(x.args.map ah).length=x.args.length:=Aa _;have llt:(l.terms.map aw).length=l.terms.length:=Aa _;by_cases hp:x.pred=l.pred
        ·have hxl:=hxa hp;repeat' (first|(apply uy;exact rfl;exact rfl;exact rfl;exact rfl;exact rfl;exact rfl;exact rfl;exact rfl)|(first|refine zs ?_|(refine zm ?_ ?_<;>intro hg)|fail))
         all_goals try (exfalso;omega)
         refine ak (ι:=Nat×Bool×RE) (λz=>⟨6,[(0,.loc 0 0),(1,.d (.int .i64 j)),(2,.d (.slice 1 ((bl e1).map ah))),(3,.d (.slice 1 ((bm e1).map bz))),(8,.loc 2 0),(9,.d (.int .i64 k)),(10,.loc 3 0),(11,.row 4),(12,.row 5),(13,.d (.bool z.2.1)),(14,.d (.int .i64 z.1))],(5,.row 4 1 ((bm z.2.2).map bz))::(4,.row 3 1 ((bl z.2.2).map ah))::(3,fctB x)::(2,litB l)::rh r S o2 false⟩)
          (λz=>z.1<=l.terms.length/\z.2.2.length=e1.length/\pj z.2.2/\(z.2.1=true->ce e1 l.terms x.args=ce z.2.2 (l.terms.drop z.1) (x.args.drop z.1))/\(z.2.1=false->ce e1 l.terms x.args=none)) (λz=>l.terms.length-z.1) (0,true,e1) ⟨Ai _,rfl,hn1,λ_=>rfl,λh=>by cases h⟩
          (er (λj=>match j with|4=>5|5=>7|j=>j)) ?_
         rintro⟨a,ok,ej⟩ ⟨f1,f2,f3,f4,f5⟩;dsimp only at f1 f2 f3 f4 f5 ⊢;have lj:((bl ej).map ah).length=e1.length:=by rw [Aa,dn,f2]
         have lk:((bm ej).map bz).length=e1.length:=by rw [Aa,cg,f2]
         cases ok with
         | false =>
          have hm:=f5 rfl;have hg0:gW go l e1 x=[]:=by unfold gW;rw [if_pos hp,hm]
          rw [hg0,tg _ hok1] at hstep;repeat' (first|refine zs ?_|(refine zm ?_ ?_<;>intro hg)|(exfalso;omega))
          all_goals exact⟨k+1,hkl,ag id ⟨rfl,rfl,rfl,rfl,rfl,rfl,trivial⟩ (by rw [hstep];exact⟨rfl,rfl,rfl,trivial⟩) rfl rfl rfl rfl rfl rfl,by omega⟩
         | true =>
          have hm:=f4 rfl;by_cases ha:a<l.terms.length
          ·have hta:=hlk.terms _ (Ag ha);rw [Ao ha,Ao (show a<x.args.length by omega),ce] at hm;have htn:=hok.nums;have hax:a<x.args.length:=by omega
           have hyn:=hxf _ (Ag hax);by_cases hv:l.terms[a].var<0
           ·have hvo:vOf ej l.terms[a]=some l.terms[a].n:=by unfold vOf;rw [if_pos hv]
            rw [hvo] at hm;have hm:ce e1 l.terms x.args=if l.terms[a].n=x.args[a]'hax then ce ej (l.terms.drop (a+1)) (x.args.drop (a+1)) else none:=hm
            repeat' (first|refine zs ?_|(refine zm ?_ ?_<;>intro hg)|(exfalso;omega))
            exact⟨(a+1,decide (l.terms[a].n=x.args[a]'hax),ej),⟨by dsimp only;omega,f2,f3,λh=>by rw [hm,if_pos (of_decide_eq_true h)],λh=>by rw [hm,if_neg (of_decide_eq_false h)]⟩,er id,by show l.terms.length-(a+1)<l.terms.length-a;omega⟩
           ·unfold okT at hta;have hlt:l.terms[a].var.toNat<ej.length:=by omega
            have hvo:vOf ej l.terms[a]=ej[l.terms[a].var.toNat]:=by unfold vOf;rw [if_neg hv,List.getD,Ab hlt];rfl
            have hho:(bm ej)[l.terms[a].var.toNat]'(by rw [cg];exact hlt)=(ej[l.terms[a].var.toNat]).isSome:=by unfold bm;rw [C5]
            have hoo:(bl ej)[l.terms[a].var.toNat]'(by rw [dn];exact hlt)=(ej[l.terms[a].var.toNat]).getD 0:=by unfold bl;rw [C5]
            rw [hvo] at hm;cases hc:ej[l.terms[a].var.toNat] with
            | some z =>
             rw [hc] at hm hho hoo;have hm:ce e1 l.terms x.args=if z=x.args[a]'hax then ce ej (l.terms.drop (a+1)) (x.args.drop (a+1)) else none:=hm
             have hho:(bm ej)[l.terms[a].var.toNat]'(by rw [cg];exact hlt)=true:=hho;have hoo:(bl ej)[l.terms[a].var.toNat]'(by rw [dn];exact hlt)=z:=hoo;repeat' ((fail_if_success (apply e8 21));(first|refine zs ?_|(refine zm ?_ ?_<;>intro hg)|fail))
             all_goals try (exfalso;omega)
             all_goals try (exfalso;rw [hho] at hg;cases hg;done)
             exact⟨(a+1,decide (z=x.args[a]'hax),ej),⟨by dsimp only;omega,f2,f3,λh=>by rw [hm,if_pos (of_decide_eq_true h)],λh=>by rw [hm,if_neg (of_decide_eq_false h)]⟩,ag id ⟨rfl,rfl,rfl,rfl,rfl,rfl,rfl,rfl,rfl,by rw [<- hoo];rfl,rfl,trivial⟩ ⟨rfl,rfl,rfl,rfl,rfl,rfl,trivial⟩ rfl rfl rfl rfl rfl rfl,by show l.terms.length-(a+1)<l.terms.length-a;omega⟩
            | none =>
             rw [hc] at hm hho hoo;have hm:ce e1 l.terms x.args=ce (ej.set l.terms[a].var.toNat (some (x.args[a]'hax))) (l.terms.drop (a+1)) (x.args.drop (a+1)):=hm;have hho:(bm ej)[l.terms[a].var.toNat]'(by rw [cg];exact hlt)=false:=hho;repeat' ((fail_if_success (apply e8 21));(fail_if_success (apply e8 25));(first|refine zs ?_|(refine zm ?_ ?_<;>intro hg)|fail))
             all_goals try (exfalso;omega)
             all_goals try (exfalso;rw [hho] at hg;cases hg;done)
             have hpm:l.terms[a].var.toNat<((bl ej).map ah).length/\∀ y∈(bl ej).map ah,y.length=1:=⟨by rw [Aa,dn];exact hlt,λy hy=>by obtain⟨z,_,rfl⟩:=List.mem_map.1 hy;rfl⟩
             have hpk:l.terms[a].var.toNat<((bm ej).map bz).length/\∀ y∈(bm ej).map bz,y.length=1:=⟨by rw [Aa,cg];exact hlt,λy hy=>by obtain⟨z,_,rfl⟩:=List.mem_map.1 hy;rfl⟩
             repeat' (first|refine zs ?_|fail)
             have o1:=outE_set ej l.terms[a].var.toNat (x.args[a]'hax);have o2:=hasE_set ej l.terms[a].var.toNat (x.args[a]'hax);exact⟨(a+1,true,ej.set l.terms[a].var.toNat (some (x.args[a]'hax))),⟨by dsimp only;omega,by dsimp only;rw [A3];exact f2,numE_set f3 (numB_iff.2 hyn),λ_=>hm,λh=>by cases h⟩,ag id ⟨rfl,rfl,rfl,rfl,rfl,rfl,rfl,rfl,rfl,rfl,rfl,trivial⟩ ⟨by rw [o2,Dc];rfl,by rw [o1,Dc];rfl,rfl,rfl,rfl,rfl,trivial⟩ rfl rfl rfl rfl rfl rfl,by show l.terms.length-(a+1)<l.terms.length-a;omega⟩
          ·rw [Ax (by omega)] at hm;have hm:ce e1 l.terms x.args=some ej:=hm;have hg0:gW go l e1 x=go ej:=by unfold gW;rw [if_pos hp,hm]
           rw [hg0] at hstep;have wr:=hrec ej o2 false (by rw [f2];exact hok) f3 hok1;repeat' ((fail_if_success (apply cp 27));(first|refine zs ?_|(refine zm ?_ ?_<;>intro hg)|fail))
           all_goals try (exfalso;omega)
           refine jw (cr 189 rfl rfl rfl) ?_;refine jw (cr 190 rfl rfl rfl) ?_;(refine bk id (wr) rfl rfl rfl rfl ⟨rfl,rfl,trivial⟩ rfl rfl rfl rfl rfl rfl ?_ ?_)
           ·rintro k2 res H2 ⟨rfl,rfl,rfl⟩;exact⟨rfl,rfl⟩
           rintro k2 res H2 ⟨rfl,rfl,rfl⟩;change DS _ _ _ _ _ _ _ _;repeat' (first|refine zs ?_|fail)
           exact⟨k+1,hkl,ag (λj=>match j with|1=>7|j=>j) ⟨rfl,rfl,rfl,rfl,rfl,rfl,trivial⟩ (by rw [hstep];exact⟨rfl,rfl,rfl,trivial⟩) rfl rfl rfl rfl rfl rfl,by omega⟩
        ·have hg0:gW go l e1 x=[]:=by unfold gW;rw [if_neg hp]
         rw [hg0,tg _ hok1] at hstep;repeat' (first|refine zs ?_|(refine zm ?_ ?_<;>intro hg)|(exfalso;omega))
         all_goals try (exfalso;exact hg hp)
         exact⟨k+1,hkl,ag id ⟨rfl,rfl,rfl,rfl,rfl,rfl,trivial⟩ (by rw [hstep];exact⟨rfl,rfl,rfl,trivial⟩) rfl rfl rfl rfl rfl rfl,by omega⟩
       ·rw [hwhole,Ax (by omega),Hh,tg _ hok1];repeat' (first|refine zs ?_|(refine zm ?_ ?_<;>intro hg)|(exfalso;omega))
        all_goals exact⟨.inr rfl,_,rfl,id,2,.tup [],rh r S o2 false,rfl,⟨rfl,rfl,trivial⟩,rfl,rfl,rfl,rfl,rfl,rfl,rfl,rfl,rfl⟩
     ·have hy:=yesL_skip hj hk;repeat' (first|refine zr ?_|(refine zm ?_ ?_<;>intro hg)|(exfalso;omega))
      exact⟨j+1,⟨by omega,by omega,g3.trans hy⟩,er id,by omega⟩
    ·have hy:=yesL_end (Nat.le_of_not_lt hj);have hfm:ysW S r.body e1 (re r.body i)=[bl e1]:=by rw [g3,hy];rfl
     rw [hfm];have lout:(out.map cx).length=out.length:=Aa _;by_cases h2k:out.length=2000
     ·rw [addW_full _ h2k];repeat' (first|refine zr ?_|(refine zm ?_ ?_<;>intro hg)|(exfalso;omega))
      exact⟨.inl rfl,_,rfl,kp id 2 (.tup []) (rh r S out true) ⟨rfl,rfl,rfl⟩⟩
     ·rw [addW_one _ (by omega)];repeat' (first|refine zr ?_|(refine zm ?_ ?_<;>intro hg)|(exfalso;omega))
      exact⟨.inl rfl,_,rfl,λj=>match j with|1=>2|j=>j,2,.tup [],rh r S (out++[bl e1]) false,rfl,⟨rfl,by rw [List.map_append];rfl,trivial⟩,rfl,rfl,rfl,rfl,rfl,rfl,rfl,rfl,rfl⟩
theorem from_fn (r:Rul) (S:List Fct) (hS:S.length<=4398046511104):∀ (n i:Nat),r.body.length-i=n->i<=r.body.length->FromOk r S i:=by
 intro n;induction n using Nat.strongRecOn with
 | ind n ih=>exact λi hn hi=>from_step r S hS i hi λj h1 h2=>ih (r.body.length-j) (by omega) j rfl h2
variable [Bnds]
def SortW (l:List (List Int)):Prop:=l.Pairwise λa b=>dj a b<=0
theorem ry {a b c:List Int} (h:dj a b<=0) (g:dj b c<=0):dj a c<=0:=by
 by_cases h1:dj a b=0
 ·rw [xe h1];exact g
 ·by_cases g1:dj b c=0
  ·rw [<- xe g1];exact h
  ·have:=ub (l:=a) (m:=b) (n:=c) (by omega) (by omega)
   omega
theorem ordL_antisymm {a b:List Int} (h:dj a b<=0) (g:dj b a<=0):a=b:=by
 rw [kl] at g;exact xe (by omega)
theorem sortW_unique:∀ {a b:List (List Int)},SortW a->SortW b->a.Perm b->a=b
 | [],b,_,_,h=>by rw [List.nil_perm.1 h]
 | x::a,b,ha,hb,h=>by
  match b,h,hb with
  | [],h,_=>simp at h
  | y::b,h,hb =>
   obtain⟨a1,a2⟩:=List.pairwise_cons.1 ha;obtain⟨b1,b2⟩:=List.pairwise_cons.1 hb;have hxy:x=y:=by
    rcases List.mem_cons.1 (h.mem_iff.1 Ae) with h1|h1
    ·exact h1
    ·rcases List.mem_cons.1 (h.mem_iff.2 (Ae (a:=y) (l:=b))) with h2|h2
     ·exact h2.symm
     ·exact ordL_antisymm (a1 y h2) (b1 x h1)
   subst hxy;rw [sortW_unique a2 b2 (List.perm_cons x |>.1 h)]
theorem tt {a b:List (List Int)} (ha:a.Nodup) (hb:b.Nodup) (h:∀ x,x∈a↔x∈b):a.Perm b:=(List.perm_ext_iff_of_nodup ha hb).2 h
def insOk (o:List (List Int)) (k i:Nat):Prop:=∀ (p q:Nat) (a b:List Int),p<q->q<=i->q≠k->o[p]?=some a->o[q]?=some b->dj a b<=0
def swapW (o:List (List Int)) (k:Nat) (a b:List Int):List (List Int):=(o.set k a).set (k-1) b
theorem swapW_get {o:List (List Int)} {k:Nat} {a b:List Int} (hk:0<k) (hl:k<o.length) (p:Nat):(swapW o k a b)[p]?=if p=k-1 then some b else if p=k then some a else o[p]?:=by
 unfold swapW;by_cases h1:p=k-1
 ·subst h1;rw [if_pos rfl,By (by rw [A3];omega)]
 ·rw [if_neg h1,Cf (Ne.symm h1)];by_cases h2:p=k
  ·subst h2;rw [if_pos rfl,By hl]
  ·rw [if_neg h2,Cf (Ne.symm h2)]
theorem insOk_swap {o:List (List Int)} {k i:Nat} {a b:List Int} (hk:0<k) (hl:k<o.length) (hki:k<=i) (ha:o[k-1]?=some a) (hb:o[k]?=some b) (hlt:dj b a<0) (h:insOk o k i):insOk (swapW o k a b) (k-1) i:=by
 intro p q x y hpq hqi hqk hx hy;rw [swapW_get hk hl] at hx hy;rw [if_neg hqk] at hy;by_cases q1:q=k
 ·rw [if_pos q1,Option.some.injEq] at hy;subst hy;by_cases p1:p=k-1
  ·rw [if_pos p1,Option.some.injEq] at hx;subst hx;omega
  ·rw [if_neg p1,if_neg (by omega)] at hx;exact h p (k-1) x a (by omega) (by omega) (by omega) hx ha
 ·rw [if_neg q1] at hy;by_cases p1:p=k-1
  ·rw [if_pos p1,Option.some.injEq] at hx;subst hx;exact h k q b y (by omega) hqi (by omega) hb hy
  ·rw [if_neg p1] at hx;by_cases p2:p=k
   ·rw [if_pos p2,Option.some.injEq] at hx;subst hx;exact h (k-1) q a y (by omega) hqi (by omega) ha hy
   ·rw [if_neg p2] at hx;exact h p q x y hpq hqi (by omega) hx hy
theorem swapW_perm {o:List (List Int)} {k:Nat} {a b:List Int} (hk:0<k) (ha:o[k-1]?=some a) (hb:o[k]?=some b):(swapW o k a b).Perm o:=by
 obtain⟨k,rfl⟩:∃ j,k=j+1:=⟨k-1,by omega⟩;simp only [Nat.add_sub_cancel] at ha;obtain⟨h1,h1'⟩:=List.getElem?_eq_some_iff.1 ha;obtain⟨h2,h2'⟩:=List.getElem?_eq_some_iff.1 hb;have ho:o=o.take k++a::b::o.drop (k+2):=by
  rw [<- h1',<- h2',<- Ao h2,<- Ao h1,Dx]
 have hs:swapW o (k+1) a b=o.take k++b::a::o.drop (k+2):=by
  apply List.ext_getElem?;intro p;rw [swapW_get hk h2];have ltk:(o.take k).length=k:=by rw [Au];omega
  rcases Nat.lt_trichotomy p k with h|h|h
  ·rw [if_neg (by omega),if_neg (by omega),List.getElem?_append_left (by omega),List.getElem?_take_of_lt h]
  ·subst h;rw [if_pos (by omega),A8 (by omega),ltk,Nat.sub_self];rfl
  ·rw [if_neg (by omega),A8 (by omega),ltk];by_cases hq:p=k+1
   ·subst hq;rw [if_pos rfl,show k+1-k=1 by omega];rfl
   ·rw [if_neg hq,show p-k=(p-(k+2))+2 by omega];simp only [List.getElem?_cons_succ,List.getElem?_drop];congr 1;omega
 rw [hs];conv=>rhs;rw [ho]
 exact List.Perm.append_left _ (List.Perm.swap _ _ _)
theorem insOk_done {o:List (List Int)} {k i:Nat} (h:insOk o k i) (hk:k=0∨∃ a b,0<k/\o[k-1]?=some a/\o[k]?=some b/\¬ dj b a<0):∀ (p q:Nat) (a b:List Int),p<q->q<=i->o[p]?=some a->o[q]?=some b->dj a b<=0:=by
 intro p q x y hpq hqi hx hy;by_cases hq:q=k
 ·subst hq;rcases hk with hk|⟨a,b,hk,ha,hb,hn⟩
  ·omega
  ·rw [hb,Option.some.injEq] at hy;subst hy;have h1:dj a b<=0:=by rw [kl];omega
   by_cases hp:p=q-1
   ·subst hp;rw [ha,Option.some.injEq] at hx;subst hx;exact h1
   ·exact ry (h p (q-1) x a (by omega) (by omega) (by omega) hx ha) h1
 ·exact h p q x y hpq hqi hq hx hy
def v6 (o:List (List Int)) (i:Nat):Prop:=∀ (p q:Nat) (a b:List Int),p<q->q<i->o[p]?=some a->o[q]?=some b->dj a b<=0
theorem sortedTo_ins {o:List (List Int)} {i:Nat} (h:v6 o i):insOk o i i:=λp q a b h1 h2 h3=>h p q a b h1 (by omega)
theorem sortedTo_all {o:List (List Int)} (h:v6 o o.length):SortW o:=by
 unfold SortW;rw [List.pairwise_iff_getElem];intro i j hi hj hij;exact h i j _ _ hij hj (Ab hi) (Ab hj)
end Go.Proofs.YtapciiffpnociadGreat
