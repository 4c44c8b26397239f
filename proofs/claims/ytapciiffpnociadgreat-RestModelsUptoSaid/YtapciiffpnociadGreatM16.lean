/- Several texts in one: RuW GxSr1 RuI RuJ RuF ScoG ScoH TokL ScoI. Condition: none. -/
import Derived.Test.YtapciiffpnociadGreatM15
import Derived.Test.YtapciiffpnociadGreatM11
import Derived.Test.YtapciiffpnociadGreatM10
import Derived.Test.YtapciiffpnociadGreatM14
import Derived.Test.YtapciiffpnociadGreatM13
set_option linter.all false
set_option maxHeartbeats 8000000
open Array renaming getElem?_eq_getElem→Dy,getElem?_modify→Ea,getElem?_toList→Ce,getElem_toList→Gn,length_toList→A4
open Bool renaming and_eq_true→Ad,false_eq_true→Do,not_eq_true→Dj
open List renaming append_assoc→Bt,drop_eq_getElem_cons→Ao,drop_of_length_le→Ax,drop_zero→D5,flatMap_append→Ej,getElem?_eq_getElem→Ab,getElem?_eq_none→Ba,getElem?_map→Bl,getElem?_replicate→D6,getElem_map→C5,getElem_mem→Ag,length_append→Ap,length_drop→B9,length_eraseIdx→D3,length_map→Aa,length_replicate→Ci,length_set→A3,length_singleton→Bh,length_take→Au,map_append→Av,map_cons→A7,map_nil→Dh,map_replicate→C2,map_set→Dc,mem_cons_of_mem→Ah,mem_of_mem_drop→Bv,nil_append→Hn,replicate→An,take_of_length_le→Ak,take_succ_eq_append_getElem→Am
open Nat renaming le_refl→Af,not_lt_zero→A6,succ_pos→G6,zero_le→Ai
namespace Go.Proofs.YtapciiffpnociadGreat
section
open Go Go.RowKit
variable [Bnds]
attribute [local irreducible] DW DS DL DQ Ev FnOk FnP dp bh DT
theorem cloneIRO_fn (l:List Int) (hl:l.length<=17592186044416):FnOk false Tryz.prog tab bp 67 [.row 0] 1 1 [(0,.row 3 1 (l.map ah))] (λ_ r H=>r = .d (.own Bnds.B (.slice 1 (l.map ah)))/\H=[(0,.row 3 1 (l.map ah))]):=by
 refine frE Tryz.func67 ?_;intro O w0 E0 β0;have la:(l.map ah).length=l.length:=Aa _;repeat' (first|refine zs ?_|fail)
 refine ds_eqnilR rfl rfl rfl rfl rfl rfl (λh=>?_) ?_
 ·have h0:l=[]:=List.map_eq_nil_iff.1 h;subst h0;repeat' (first|refine zs ?_|fail)
  refine au (cz 2 1 rfl) ?_;repeat' (first|refine zr ?_|fail)
  exact⟨.inl rfl,_,rfl,kp id 1 _ ([(0,.row 3 1 [])]) ⟨rfl,rfl⟩⟩
 ·repeat' (first|(apply uy;exact rfl;exact rfl;exact rfl;exact rfl;exact rfl;exact rfl;exact rfl;exact rfl)|(first|refine zs ?_|fail))
  refine ds_append_rowR 0 rfl rfl rfl rfl rfl rfl rfl rfl rfl rfl rfl ?_ ?_ rfl ?_
  ·show (0+(l.map ah).length)*8<=_;omega
  ·show 0+(l.map ah).length<=_;unfold maxLen;omega
  repeat' (first|refine zs ?_|fail)
  refine au (ko (xs:=l.map ah) 2 (e6 owns_int _) rfl rfl rfl) ?_;repeat' (apply dv)
  exact⟨.inl rfl,_,rfl,kp id 1 _ ([(0,.row 3 1 (l.map ah))]) ⟨rfl,rfl⟩⟩
theorem putW_app {a b out:List (List Int)} (h:qy a out=true):na (a++b) out=na b (na a out)/\qy (a++b) out=qy b (na a out)/\(na a out).length<=2000:=by
 have h:=of_decide_eq_true h;have hp:na a out=out++a:=by unfold na;exact Ak (by rw [Ap];omega)
 rw [hp];refine⟨by unfold na;rw [Bt],?_,by rw [Ap];exact h⟩
 unfold qy;rw [Ap,Ap];exact decide_eq_decide.2 (by omega)
theorem putW_many {a b out:List (List Int)} (h:qy a out=false):na (a++b) out=na a out/\qy (a++b) out=false:=by
 have h:=of_decide_eq_false h;refine⟨?_,decide_eq_false (by rw [Ap];omega)⟩
 unfold na;rw [<- Bt,List.take_append_of_le_length (by rw [Ap];omega)]
theorem uh:∀ {ts:List Trm} {ns:List Int} {e e':RE},pj e->(∀ n∈ns,-1000000<=n/\n<=1000000)->ce e ts ns=some e'->pj e'
 | [],_,e,e',hn,_,h=>by simp only [ce,Option.some.injEq] at h;subst h;exact hn
 | _::_,[],e,e',hn,_,h=>by simp only [ce,Option.some.injEq] at h;subst h;exact hn
 | t::ts,n::ns,e,e',hn,hns,h=>by
  rw [ce] at h
  cases hv:vOf e t with
  | some x =>
   rw [hv] at h
   simp only at h
   split at h
   ·exact uh hn (λm hm=>hns m (Ah _ hm)) h
   ·cases h
  | none =>
   rw [hv] at h
   simp only at h
   refine uh (λv x hx=>?_) (λm hm=>hns m (Ah _ hm)) h
   by_cases hq:t.var.toNat=v
   ·subst hq
    by_cases hl:t.var.toNat<e.length
    ·rw [List.getElem?_set_self hl] at hx
     simp at hx;subst hx
     exact hns n (List.mem_cons_self ..)
    ·rw [Ba (by rw [A3];omega)] at hx;cases hx
   ·rw [List.getElem?_set_ne hq] at hx
    exact hn v x hx
def vl (W:RE->List (List Int)) (e:RE) (l:Ltl) (x:Fct):List (List Int):=if x.pred=l.pred then matW W (ce e l.terms x.args) else []
theorem litW_yes' {S:List Fct} {W:RE->List (List Int)} {l:Ltl} {e:RE} (h:l.kind=1):xn S W l e=S.flatMap (vl W e l):=by
 unfold xn;rw [if_pos h];rfl
def FindOk (r:Rul) (S:List Fct) (left:List Ltl):Prop:=∀ (e:RE) (out:List (List Int)),okB S e.length left->pj e->Bd left (bm e)->out.length<=2000 ->
 FnOk false Tryz.prog tab bp 116 [.loc 0 0,.d (.slice 4 (left.map ay))] 3 4 (pfH r S e out)
  (λk2 res H=>k2=4/\res = .d (.bool (qy (im S left.length left e) out))/\H=pfH r S e (na (im S left.length left e) out))
theorem find1_fn (r:Rul) (S:List Fct) (left:List Ltl) (hf:FindOk r S left) (e:RE) (out:List (List Int)) (h1:okB S e.length left) (h2:pj e) (h3:Bd left (bm e)) (h4:out.length<=2000) :
  FnOk false Tryz.prog tab bp 165 [.loc 3 0,.loc 4 0] 5 6 (goH r S left e out) (λk2 res H=>k2=6/\res = .d (.bool (qy (im S left.length left e) out))/\H=goH r S left e (na (im S left.length left e) out)):=by
 refine frE Tryz.func165 ?_;intro O w0 E0 β0;have w:=hf e out h1 h2 h3 h4;clear hf;generalize qy (im S left.length left e) out=bb at w ⊢;generalize na (im S left.length left e) out=o2 at w ⊢;repeat' (first|refine zs ?_|fail)
 refine bk (λj=>match j with|3=>5|j=>j) w rfl rfl rfl rfl ⟨rfl,rfl,rfl,rfl,trivial⟩ rfl rfl rfl rfl rfl rfl ?_ ?_
 ·rintro k2 res H2 ⟨rfl,rfl,rfl⟩;exact⟨rfl,rfl⟩
 rintro k2 res H2 ⟨rfl,rfl,rfl⟩;change DS _ _ _ _ _ _ _ _;repeat' (first|refine zr ?_|fail)
 exact⟨.inl rfl,_,rfl,kp (λj=>match j with|5=>9|j=>j) 6 _ (goH r S left e o2) ⟨rfl,rfl,rfl⟩⟩
theorem find_nil (r:Rul) (S:List Fct):FindOk r S []:=by
 intro e out h1 _ _ h4;refine frE Tryz.func116 ?_;intro O w0 E0 β0;have he:=h1.vle;have w:=cloneIRO_fn (bl e) (by rw [dn];omega);have hfe:im S 0 [] e=[bl e]:=rfl;rw [show ([]:List Ltl).length=0 from rfl,hfe];repeat' ((fail_if_success (apply e8 2));(first|refine zs ?_|fail))
 refine ru 12 (by kernel_rfl) (by kernel_rfl) (by kernel_rfl) rfl rfl rfl ?_;repeat' refine z5 ?_
 refine x7 (λj=>match j with|0=>1|j=>j) w (by rintro _ rfl;exact⟨rfl,rfl⟩) ⟨_,rfl⟩ rfl rfl rfl rfl ⟨rfl,trivial⟩ rfl rfl rfl rfl rfl rfl rfl rfl rfl ?_;rintro _ rfl;have lo:(out.map encWO).length=out.length:=Aa _;repeat' (first|refine zr ?_|fail)
 have hp:na [bl e] out=out++[bl e]:=by unfold na;exact Ak (by simp only [Ap,Bh];omega)
 rw [hp];have hfew:decide (((((out.map encWO++[[D.own Bnds.B (.slice 1 ((bl e).map ah))]]).length:Nat):Int))<=2000)=qy [bl e] out:=by
  unfold qy;simp only [Ap,Bh,lo];exact decide_eq_decide.2 (by omega)
 exact⟨.inl rfl,_,rfl,λj=>match j with|3=>16|j=>j,4,.d (.bool _),pfH r S e (out++[bl e]),rfl,⟨rfl,rfl,rfl,by rw [Av];rfl,trivial⟩,rfl,rfl,rfl,rfl,rfl,rfl,rfl,congrArg (λb=>SV.d (.bool b)) hfew,rfl⟩
theorem find_step (r:Rul) (S:List Fct) (hS:Strict S) (hS2:S.length<=4398046511104) (left:List Ltl) (hne:left≠[]) (ih:∀ i (_:i<left.length),FindOk r S (left.eraseIdx i)):FindOk r S left:=by
 intro e out h1 h2 h3 h4;refine frE Tryz.func116 ?_;intro O w0 E0 β0;have ll:(left.map ay).length=left.length:=Aa _;have hl4:=h1.len;have hpos:0<left.length:=List.length_pos_iff.2 hne;have hnx:=next_lt hne h1.lit h3;have hnr:=next_is hnx;have w1:=next_fn r S out e left h1.lit (by omega) hnx h1.tlen;have hB':∀ e',leB (bm e) (bm e')->((∀ t∈dq left[eo e left],isT (bm e') t=true)∨∀ ds,b9 ds left[eo e left]=false)->Bd (left.eraseIdx (eo e left)) (bm e'):=λe' k1 k2=>Bd_rest hnx h3 k1 k2
 have hok':∀ e':RE,e'.length=e.length->okB S e'.length (left.eraseIdx (eo e left)):=λe' k1=>by
  have hsub:∀ l∈left.eraseIdx (eo e left),l∈left:=λl hl=>(sm hnx l).2 (.inr hl)
  rw [k1];exact⟨λl hl=>h1.lit l (hsub l hl),λl hl=>h1.op l (hsub l hl),λl hl=>h1.nums l (hsub l hl),h1.facts,by rw [D3];split<;>omega,h1.vle,λl hl=>h1.tlen l (hsub l hl)⟩
 have hfe:im S left.length left e=xn S (im S (left.length-1) (left.eraseIdx (eo e left))) left[eo e left] e:=by
  obtain⟨l0,ls,rfl⟩:=List.exists_cons_of_ne_nil hne;rw [List.length_cons,im,Ab hnx,Nat.add_sub_cancel]
 have hel:(left.eraseIdx (eo e left)).length=left.length-1:=by rw [D3,if_pos hnx]
 have ih':=ih _ hnx;have hlm:=Ag hnx;have hlo:=h1.lit _ hlm;have hlop:=h1.op _ hlm;have hlnum:=h1.nums _ hlm;have hl3:=h1.tlen _ hlm;rw [hfe,<- hel];clear ih hfe h3;have hc:Fn 164 [.d (.slice 1 [[.slice 4 ((left.take (eo e left)).map ay)],[.slice 4 ((left.drop (eo e left+1)).map ay)]])] (λr=>r = .d (.slice 4 ((left.eraseIdx (eo e left)).map ay))):=by
  have h:=concatLtl_fn [left.take (eo e left),left.drop (eo e left+1)] (by simp only [A7,Dh,List.sum_cons,List.sum_nil,Au,B9];omega) (by simp);rw [show [left.take (eo e left),left.drop (eo e left+1)].flatten=left.eraseIdx (eo e left) by rw [List.eraseIdx_eq_take_drop_succ];simp] at h;exact h
 repeat' (first|refine zs ?_|(refine zm ?_ ?_<;>intro hg)|(exfalso;omega))
 (refine bk id (w1) rfl rfl rfl rfl ⟨rfl,rfl,rfl,rfl,trivial⟩ rfl rfl rfl rfl rfl rfl ?_ ?_)
 ·rintro k2 res H2 ⟨rfl,rfl⟩;exact⟨rfl,rfl⟩
 rintro k2 res H2 ⟨rfl,rfl⟩;change DS _ _ _ _ _ _ _ _;clear w1;generalize eo e left=j at *;repeat' ((fail_if_success (apply iz 8));(first|refine zs ?_|refine z22 ?_ (hc:=by apply hc)|fail))
 all_goals try (exfalso;omega)
 refine au (ag (k':=7) (L':=[(2,.loc 3 0),(6,.loc 6 0),(8,.fn 165 [.loc 3 0,.loc 4 0])]) (H':=(6,litB left[j])::goH r S (left.eraseIdx j) e out) (λz=>match z with|3=>4|4=>15|5=>3|6=>5|z=>z) ⟨rfl,rfl,rfl,trivial⟩ ⟨rfl,rfl,rfl,rfl,rfl,rfl,rfl,trivial⟩ rfl rfl rfl rfl rfl rfl) ?_;clear hc ll hlm;generalize left[j]=l at *;generalize left.eraseIdx j=rest at *;have hthen:∀ (ts:List Trm) (ns:List Int) (o:List (List Int)),o.length<=2000->ts.length=ns.length->(∀ t∈ts,okT e.length t)->(∀ n∈ns,-1000000<=n/\n<=1000000)->dq l=ts->∀ e',ce e ts ns=some e' ->
   FnOk false Tryz.prog tab bp 165 [.loc 3 0,.loc 4 0] 5 6 (goH r S rest e' o) (λk2 res H=>k2=6/\res = .d (.bool (qy (im S rest.length rest e') o))/\H=goH r S rest e' (na (im S rest.length rest e') o)):=by
  intro ts ns o q1 q2 q3 q4 q5 e' q6;obtain⟨m1,_,m3⟩:=fh q2 q3 q6;exact find1_fn r S rest ih' e' o (hok' e' m1) (uh h2 q4 q6) (hB' e' (by rw [m3];exact ky _ _) (.inl (by rw [q5,m3];exact m7 (by rw [cg];exact q3)))) q1
 have hthen0:l.kind≠1->l.kind≠4->FnOk false Tryz.prog tab bp 165 [.loc 3 0,.loc 4 0] 5 6 (goH r S rest e out) (λk2 res H=>k2=6/\res = .d (.bool (qy (im S rest.length rest e) out))/\H=goH r S rest e (na (im S rest.length rest e) out)):=λn1 n4 =>
  find1_fn r S rest ih' e out (hok' e rfl) h2 (hB' e (leB.refl _) (.inr λds=>by unfold b9;rw [decide_eq_false n1,decide_eq_false n4];rfl)) h4
 have hfacts:=h1.facts;have hfl:=hlo.facts;have hT:=hlo.terms;have hc3:=hlo.calc3;have ht2:=hlo.test2;have hkind:=hlo.kind;have hvle:=h1.vle;clear ih' hB' hok' hlo h1 hel hnx hpos;generalize im S rest.length rest=W at hthen hthen0 ⊢;by_cases hk1:l.kind=1
 ·rw [litW_yes' hk1];have lS:(S.map aa).length=S.length:=Aa _;repeat' (first|refine zs ?_|(refine zm ?_ ?_<;>intro hg)|(exfalso;omega))
  refine ak (ι:=Nat) (λi=>⟨7,[(2,.loc 3 0),(6,.loc 6 0),(8,.fn 165 [.loc 3 0,.loc 4 0]),(68,.d (.slice 2 (S.map aa))),(69,.d (.int .i64 S.length)),(70,.d (.int .i64 i))],(6,litB l)::goH r S rest e (na ((S.take i).flatMap (vl W e l)) out)⟩)
   (λi=>i<=S.length/\qy ((S.take i).flatMap (vl W e l)) out=true) (λi=>S.length-i) 0 ⟨Ai _,sy h4⟩ (ag id ⟨rfl,rfl,rfl,rfl,by rw [<- lS];rfl,rfl,trivial⟩ ⟨rfl,rfl,rfl,rfl,rfl,rfl,by rw [show (S.take 0).flatMap (vl W e l)=[] from rfl,si h4];rfl,trivial⟩ rfl rfl rfl rfl rfl rfl) ?_
  rintro i ⟨g1,g2⟩;dsimp only at g1 g2 ⊢;by_cases hi:i<S.length
  ·have hx:=Ag hi;have hst:(S.take (i+1)).flatMap (vl W e l)=(S.take i).flatMap (vl W e l)++vl W e l S[i]:=by rw [Am hi,Ej];simp
   obtain⟨p1,p2,p3⟩:=putW_app (b:=vl W e l S[i]) g2;have hwh:S.flatMap (vl W e l)=(S.take (i+1)).flatMap (vl W e l)++(S.drop (i+1)).flatMap (vl W e l):=by rw [<- Ej,List.take_append_drop]
   have hfx:=hfacts _ hx;have hfa:=hfl hk1 _ hx;rw [<- hst] at p1 p2;generalize na ((S.take i).flatMap (vl W e l)) out=o at p1 p2 p3 ⊢;have w:=match_fnR r S rest o e l.terms S[i].args W;by_cases hp:S[i].pred=l.pred
   ·have hfw:vl W e l S[i]=matW W (ce e l.terms S[i].args):=by unfold vl;rw [if_pos hp]
    have w:=w (hfa hp).symm (by omega) hT p3 (hthen l.terms S[i].args o p3 (hfa hp).symm hT hfx (by unfold dq;rw [if_pos hk1]));rw [<- hfw,<- p1,<- p2] at w;repeat' (first|refine zr ?_|(refine zm ?_ ?_<;>intro hg)|(exfalso;omega))
    (refine bk id (w) rfl rfl rfl rfl ⟨rfl,rfl,rfl,rfl,rfl,rfl,trivial⟩ rfl rfl rfl rfl rfl rfl ?_ ?_)
    ·rintro k2 res H2 ⟨rfl,rfl,rfl⟩;exact⟨rfl,rfl⟩
    rintro k2 res H2 ⟨rfl,rfl,rfl⟩;change DS _ _ _ _ _ _ _ _;cases hb:qy ((S.take (i+1)).flatMap (vl W e l)) out with
    | true =>
     repeat' (first|refine zs ?_|(exfalso;omega))
     exact⟨i+1,⟨hi,hb⟩,er (λj=>match j with|5=>13|j=>j),by omega⟩
    | false =>
     obtain⟨q1,q2⟩:=putW_many (b:=(S.drop (i+1)).flatMap (vl W e l)) hb;rw [<- hwh] at q1 q2;rw [q1,q2];repeat' (first|refine zr ?_|(exfalso;omega))
     exact⟨.inl rfl,_,rfl,kp (λj=>match j with|3=>13|j=>j) 4 _ (pfH r S e _) ⟨rfl,rfl,rfl⟩⟩
   ·have hfw:vl W e l S[i]=[]:=by unfold vl;rw [if_neg hp]
    rw [hfw] at p1 p2;rw [si p3] at p1;rw [sy p3] at p2;repeat' (first|refine zr ?_|(refine zm ?_ ?_<;>intro hg)|(exfalso;omega))
    exact⟨i+1,⟨hi,p2⟩,ag id ⟨rfl,rfl,rfl,rfl,rfl,rfl,trivial⟩ ⟨rfl,rfl,rfl,rfl,rfl,rfl,by rw [p1];rfl,trivial⟩ rfl rfl rfl rfl rfl rfl,by omega⟩
  ·rw [Ak (by omega)] at g2 ⊢;rw [g2];repeat' (first|refine zr ?_|(refine zm ?_ ?_<;>intro hg)|(exfalso;omega))
   exact⟨.inl rfl,_,rfl,kp (λj=>match j with|3=>5|j=>j) 4 _ (pfH r S e _) ⟨rfl,rfl,rfl⟩⟩
 ·have hrd:t6 e l=true:=hnr.resolve_right hk1;by_cases hk4:l.kind=4
  ·have h3:=hc3 hk4;have hnum:∀ t∈l.terms,-1000000<=vA (bl e) t/\vA (bl e) t<=1000000:=λt ht=>vA_num h2 (hlnum t ht)
   have hall:(l.terms.take 2).all (λt=>(vOf e t).isSome)=true:=by
    unfold t6 po at hrd;rw [if_pos hk4] at hrd;exact hrd
   have hlW:xn S W l e=if numB (ku l (bl e)) then matW W (ce e (l.terms.drop 2) [ku l (bl e)]) else []:=by
    unfold xn;rw [if_neg hk1,if_pos hk4];rfl
   have w:=values_fn r S out e (l.terms.take 2) (λt ht=>hT t (List.mem_of_mem_take ht)) (by rw [Au];omega);rw [hall,if_pos rfl] at w;have hthen4:=hthen (l.terms.drop 2) [ku l (bl e)] out h4 (by rw [B9,h3];rfl) (λt ht=>hT t (Bv ht));have hlt:dq l=l.terms.drop 2:=by unfold dq;rw [if_neg hk1]
   have wm:=λhn:numB (ku l (bl e))=true=>match_fnR r S rest out e (l.terms.drop 2) [ku l (bl e)] W (by rw [B9,h3];rfl) (by rw [B9];omega) (λt ht=>hT t (Bv ht)) h4
    (hthen4 (by intro n hn';rw [List.mem_singleton] at hn';subst hn';exact numB_iff.1 hn) hlt)
   have hcl:ku l (bl e)=mu l.op ((l.terms.map (vA (bl e))).getD 0 0) ((l.terms.map (vA (bl e))).getD 1 0):=rfl;rw [hcl] at hlW wm;clear hthen4 hthen hthen0 hcl hlt hall hrd hnr;obtain⟨kind,op,pred,terms⟩:=l;dsimp only at h3 hk4 hk1 hnum w wm hlW hT;match terms,h3 with
   | [t1,t2,t3],_ =>
    simp only [A7,Dh,List.getD_cons_zero,List.getD_cons_succ,List.take_succ_cons,List.take_zero,List.drop_succ_cons,D5] at w wm hlW;have n1:=hnum t1 (by simp);have n2:=hnum t2 (by simp);clear hnum;generalize vA (bl e) t1=x at *;generalize vA (bl e) t2=y at *;have w4:=calc_fn op x y n1 n2;have w5:=qh (mu op x y);repeat' (first|refine zs ?_|(refine zm ?_ ?_<;>intro hg)|fail)
    all_goals try (exfalso;first|omega|exact hk1 hg|exact hg hk4|exact hk4 hg|exact hk3 hg|exact hg hk3)
    refine x7 (λj=>match j with|3=>5|j=>j) w (by rintro _ rfl;exact⟨rfl,rfl⟩) ⟨_,rfl⟩ rfl rfl rfl rfl ⟨rfl,rfl,rfl,rfl,trivial⟩ rfl rfl rfl rfl rfl rfl rfl rfl rfl ?_;rintro _ rfl;clear w;repeat' ((fail_if_success (apply e8 20));(first|refine zs ?_|refine z22 ?_ (hc:=by apply w4)|fail))
    all_goals try (exfalso;first|omega|exact hk1 hg|exact hg hk4|exact hk4 hg|exact hk3 hg|exact hg hk3)
    cases hn:numB (mu op x y) with
    | false =>
     rw [hn] at hlW w5;rw [hlW,if_neg (by simp),sy h4,si h4];repeat' (first|refine zr ?_|refine z22 ?_ (hc:=by apply w5)|fail)
     all_goals try (exfalso;first|omega|exact hk1 hg|exact hg hk4|exact hk4 hg|exact hk3 hg|exact hg hk3)
     exact⟨.inl rfl,_,rfl,kp (λj=>match j with|3=>5|j=>j) 4 _ (pfH r S e out) ⟨rfl,rfl,rfl⟩⟩
    | true =>
     have wm:=wm hn;rw [hn] at hlW w5;rw [hlW,if_pos rfl];refine ru 11 (by kernel_rfl) (by kernel_rfl) (by kernel_rfl) rfl rfl rfl ?_;repeat' (first|refine zs ?_|refine z22 ?_ (hc:=by apply w5)|fail)
     all_goals try (exfalso;first|omega|exact hk1 hg|exact hg hk4|exact hk4 hg|exact hk3 hg|exact hg hk3)
     (refine bk id (wm) rfl rfl rfl rfl ⟨rfl,rfl,rfl,rfl,rfl,rfl,trivial⟩ rfl rfl rfl rfl rfl rfl ?_ ?_)
     ·rintro k2 res H2 ⟨rfl,rfl,rfl⟩;exact⟨rfl,rfl⟩
     rintro k2 res H2 ⟨rfl,rfl,rfl⟩;change DS _ _ _ _ _ _ _ _;repeat' (first|refine zr ?_|fail)
     exact⟨.inl rfl,_,rfl,kp (λj=>match j with|3=>12|j=>j) 4 _ (pfH r S e _) ⟨rfl,rfl,rfl⟩⟩
  ·have hlW:xn S W l e=if holdE S l (bl e) then W e else []:=by unfold xn;rw [if_neg hk1,if_neg hk4]
   have hth:=hthen0 hk1 hk4;clear hthen0;have hall:l.terms.all (λt=>(vOf e t).isSome)=true:=by
    unfold t6 po at hrd;rw [if_neg hk4] at hrd;exact hrd
   have w:=values_fn r S out e l.terms hT (by omega);rw [hall,if_pos rfl] at w;clear hthen hall hrd hnr;by_cases hk3:l.kind=3
   ·have h2':=ht2 hk3;obtain⟨kind,op,pred,terms⟩:=l;dsimp only at h2' hk3 hk4 hk1 w hlW hT;match terms,h2' with
    | [t1,t2],_ =>
     have hh:holdE S ⟨kind,op,pred,[t1,t2]⟩ (bl e)=zu op (vA (bl e) t1) (vA (bl e) t2):=by subst hk3;rfl
     rw [hh] at hlW;simp only [A7,Dh] at w;generalize vA (bl e) t1=x at *;generalize vA (bl e) t2=y at *;have w4:=test_fn op x y;repeat' (first|refine zs ?_|(refine zm ?_ ?_<;>intro hg)|fail)
     all_goals try (exfalso;first|omega|exact hk1 hg|exact hg hk4|exact hk4 hg|exact hk3 hg|exact hg hk3)
     refine bk (λj=>match j with|3=>5|j=>j) w rfl rfl rfl rfl ⟨rfl,rfl,rfl,rfl,trivial⟩ rfl rfl rfl rfl rfl rfl ?_ ?_
     ·rintro k2 res H2 ⟨rfl,rfl⟩;exact⟨rfl,rfl⟩
     rintro k2 res H2 ⟨rfl,rfl⟩;change DS _ _ _ _ _ _ _ _;cases hb:zu op x y with
     | false =>
      rw [hb] at hlW w4;rw [hlW,if_neg (by simp),sy h4,si h4];repeat' (first|refine zr ?_|refine z22 ?_ (hc:=by apply w4)|(refine zm ?_ ?_<;>intro hg)|fail)
      all_goals try (exfalso;first|omega|exact hk1 hg|exact hg hk4|exact hk4 hg|exact hk3 hg|exact hg hk3)
      exact⟨.inl rfl,_,rfl,kp (λj=>match j with|3=>5|j=>j) 4 _ (pfH r S e out) ⟨rfl,rfl,rfl⟩⟩
     | true =>
      rw [hb] at hlW w4;rw [hlW,if_pos rfl];repeat' (first|refine zs ?_|refine z22 ?_ (hc:=by apply w4)|(refine zm ?_ ?_<;>intro hg)|fail)
      all_goals try (exfalso;first|omega|exact hk1 hg|exact hg hk4|exact hk4 hg|exact hk3 hg|exact hg hk3)
      (refine qa id (hth) rfl rfl rfl rfl rfl rfl ⟨rfl,rfl,rfl,rfl,rfl,rfl,trivial⟩ rfl rfl rfl rfl rfl rfl ?_ ?_)
      ·rintro k2 res H2 ⟨rfl,rfl,rfl⟩;exact⟨rfl,rfl⟩
      rintro k2 res H2 ⟨rfl,rfl,rfl⟩;change DS _ _ _ _ _ _ _ _;repeat' (first|refine zr ?_|fail)
      exact⟨.inl rfl,_,rfl,kp (λj=>match j with|3=>12|j=>j) 4 _ (pfH r S e _) ⟨rfl,rfl,rfl⟩⟩
   ·have hk2:l.kind=2:=by omega
    have hh:holdE S l (bl e) = !hasF S ⟨l.pred,l.terms.map (vA (bl e))⟩:=by unfold holdE;rw [if_neg hk1,if_pos hk2]
    rw [hh] at hlW;have w4:=in_fn S ⟨l.pred,l.terms.map (vA (bl e))⟩ hS2 hS;repeat' (first|refine zs ?_|(refine zm ?_ ?_<;>intro hg)|fail)
    all_goals try (exfalso;first|omega|exact hk1 hg|exact hg hk4|exact hk4 hg|exact hk3 hg|exact hg hk3)
    refine bk (λj=>match j with|3=>5|j=>j) w rfl rfl rfl rfl ⟨rfl,rfl,rfl,rfl,trivial⟩ rfl rfl rfl rfl rfl rfl ?_ ?_
    ·rintro k2 res H2 ⟨rfl,rfl⟩;exact⟨rfl,rfl⟩
    rintro k2 res H2 ⟨rfl,rfl⟩;change DS _ _ _ _ _ _ _ _;cases hb:hasF S ⟨l.pred,l.terms.map (vA (bl e))⟩ with
    | true =>
     rw [hb] at hlW w4;rw [hlW,if_neg (by simp),sy h4,si h4];repeat' (first|refine zr ?_|refine z22 ?_ (hc:=by apply w4)|(refine zm ?_ ?_<;>intro hg)|fail)
     all_goals try (exfalso;first|omega|exact hk1 hg|exact hg hk4|exact hk4 hg|exact hk3 hg|exact hg hk3)
     exact⟨.inl rfl,_,rfl,kp (λj=>match j with|3=>5|j=>j) 4 _ (pfH r S e out) ⟨rfl,rfl,rfl⟩⟩
    | false =>
     rw [hb] at hlW w4;rw [hlW,if_pos (by simp)];repeat' (first|refine zs ?_|refine z22 ?_ (hc:=by apply w4)|(refine zm ?_ ?_<;>intro hg)|fail)
     all_goals try (exfalso;first|omega|exact hk1 hg|exact hg hk4|exact hk4 hg|exact hk3 hg|exact hg hk3)
     (refine qa id (hth) rfl rfl rfl rfl rfl rfl ⟨rfl,rfl,rfl,rfl,rfl,rfl,trivial⟩ rfl rfl rfl rfl rfl rfl ?_ ?_)
     ·rintro k2 res H2 ⟨rfl,rfl,rfl⟩;exact⟨rfl,rfl⟩
     rintro k2 res H2 ⟨rfl,rfl,rfl⟩;change DS _ _ _ _ _ _ _ _;repeat' (first|refine zr ?_|fail)
     exact⟨.inl rfl,_,rfl,kp (λj=>match j with|3=>12|j=>j) 4 _ (pfH r S e _) ⟨rfl,rfl,rfl⟩⟩
theorem find_fn (r:Rul) (S:List Fct) (hS:Strict S) (hS2:S.length<=4398046511104):∀ (n:Nat) (left:List Ltl),left.length=n->FindOk r S left
 | 0,left,h=>by rw [List.eq_nil_of_length_eq_zero h];exact find_nil r S
 | n+1,left,h=>find_step r S hS hS2 left (λh0=>by rw [h0] at h;cases h) λi hi=>find_fn r S hS hS2 n _ (by rw [D3,if_pos hi];omega)
end
section
open Go Go.RowKit Go.Sort Go.Shelf
variable [Bnds]
section
variable {β : Type}
def Held.val {X:Nat->Prop} {w:World} {enc:β->List D} (h:Held X w 1 enc):Value:=h.vs.headD undef
theorem Held.vs1 {X:Nat->Prop} {w:World} {enc:β->List D} (h:Held X w 1 enc):h.vs=[h.val]:=by
 have:=h.len
 unfold Held.val;match hv:h.vs,this with
 | [v],_=>rfl
theorem sort1_heap {α:Type} [Inhabited α] {w:World} {g n:Nat} {os:Array Obj} {cur:Array Value} {e:TypeId} {fr:Nat×Nat} (enc:α->Value) (d:Array α) (hb:w.heap[g]?=some (.cells cur e fr)) :
  (sortWorld enc w g 0 n d os).heap[g]?=some (.cells (putCells enc 0 d cur) e fr):=by
 have hg:g<w.heap.size:=(Array.getElem?_eq_some_iff.1 hb).1;unfold sortWorld;rw [heap_grow_old _ _ (by simpa using hg)];simp [putRow,mapBlock,Sort.ahead,Ea,hb,onCells]
theorem v8 {α:Type} [Inhabited α] {w:World} {g n:Nat} {os:Array Obj} (enc:α->Value) (d:Array α) {b:Nat} (hb:b<w.heap.size) (hne:b≠g) :
  (sortWorld enc w g 0 n d os).heap[b]?=w.heap[b]?:=by
 unfold sortWorld;rw [heap_grow_old _ _ (by simpa using hb)];have:g≠b:=λh=>hne h.symm
 simp [putRow,mapBlock,Sort.ahead,Ea,this]
theorem sort1_size {α:Type} [Inhabited α] {w:World} {g n:Nat} {os:Array Obj} (enc:α->Value) (d:Array α):w.heap.size<=(sortWorld enc w g 0 n d os).heap.size:=by
 unfold sortWorld;simp
theorem take_putCells1 {α:Type} [Inhabited α] (enc:α->Value) (cur:Array Value) (d:Array α) (h:d.size<=cur.size):(putCells enc 0 d cur).toList.take d.size=d.toList.map enc:=by
 apply List.ext_getElem?;intro j;by_cases hj:j<d.size
 ·rw [List.getElem?_take_of_lt hj,Ce,Bl,Ce,Dy hj];simp [putCells,hj,show j<cur.size by omega]
 ·rw [List.getElem?_take_eq_none (by omega),Ba (by simp;omega)]
variable {P : Program} {τ : List (Nat×TI)} {τok : dc P τ} {ρ : Ren}
theorem sort_row1 (L:SlLaysF.n6 P ρ) (enc:β->List D) (hes:∀ x,(enc x).length=1) (cf:β->β->Int) (hO:SWO (ltOf cf)) (g:Nat)
  (hc:∀ a b,FnP true P τ τok g ((enc a++enc b).map .d) (λr=>r = .d (.int .i64 (cf a b)))) (te:TypeId) (l:List β) (hl:l.length<4611686018427387904)
  {X:Nat->Prop} {e:Env} {w:World} {i:Nat} (hXo:∀ c,HB.owned e (i,.row te 1 (l.map enc))=some c->X c) (hXl:∀ b,X b->b<w.heap.size) (hrow:HRel X e w (i,.row te 1 (l.map enc))) (hTw:Tabs P (λ_=>False) w) :
  Calls P (ρ.f 6) #[e.η i,.func (.func g) #[] #[]] w λen w'=>en = .returned (.tuple #[])/\w.heap.size<=w'.heap.size/\w'.os=w.os/\w'.tape=w.tape/\w'.output=w.output /\
   (∀ c,c<w.heap.size->HB.owned e (i,.row te 1 (l.map enc))≠some c->w'.heap[c]?=w.heap[c]?)/\∃ l':List β,l'.Perm l/\l'.Pairwise (λa b=>cf b a ≥ 0)/\HRel X e w' (i,.row te 1 (l'.map enc)):=by
 obtain⟨us,hown,hlen,hone2,hrep⟩:=hrow;by_cases hne:l=[]
 ·subst hne;obtain⟨p,cap,hv⟩:∃ p cap,e.η i = .slice p 0 cap:=by
   rcases hown.2 with ⟨hv,_⟩|⟨gb,cap,cur,hv,_⟩
   ·exact⟨_,_,hv⟩
   ·exact⟨_,_,hv⟩
  rw [hv];refine (AnyF.slices_SortFunc_none { L with } p cap _ w).mono ?_;rintro en w' ⟨rfl,rfl⟩;exact⟨rfl,Af _,rfl,rfl,rfl,λ_ _ _=>rfl,[],.refl _,.nil,us,hown,hlen,hone2,hrep⟩
 ·have hpos:0<l.length:=List.length_pos_iff.2 hne;have lm:(l.map enc).length=l.length:=Aa _;obtain⟨hul,hcase⟩:=hown;rw [lm] at hul hcase;rcases hcase with ⟨_,h⟩|⟨gb,cap,cur,hv,_,hblk,hnc,hcm,hcs,htk⟩
  ·omega
  have hgb:gb<w.heap.size:=(Array.getElem?_eq_some_iff.1 hblk).1;have howned:∀ (m:List (List D)),HB.owned e (i,.row te 1 m)=some gb:=λm=>by simp [HB.owned,hv,Value.ownBlock]
  have hXg:X gb:=hXo gb (howned _);obtain⟨d,d1,d2⟩:=held_of (X:=X) (w:=w) (enc:=enc) hes l us hul hone2 (λi hi j hj=>by
   obtain⟨v,q1,q2⟩:=hrep i (by rw [lm];exact hi) j (by simpa using hj);exact⟨v,q1,by simpa using q2⟩)
  have hdl:d.length=l.length:=by rw [<- d1,Aa]
  haveI:Inhabited (Held X w 1 enc):=⟨d[0]'(by omega)⟩
  have hflat:∀ (q:List (Held X w 1 enc)),(q.map Held.vs).flatten=q.map Held.val:=by
   intro q;induction q with
   | nil=>rfl
   | cons x q ih=>rw [A7,List.flatten_cons,ih,x.vs1];rfl
  have hF:d.map Held.val=us:=by rw [<- hflat,d2]
  have hHold:Holds (Held.val (X:=X) (w:=w) (enc:=enc)) w gb 0 d.toArray:=by
   intro t ht;have ht':t<l.length:=by simpa [hdl] using ht
   have hc1:cur[t]?=us[t]?:=by
    rw [<- htk,List.getElem?_take,if_pos (by omega),Ce]
   refine⟨?_,by simp [World.frozen?,hblk]⟩
   simp only [World.cell?,hblk,Nat.zero_add];simp only [Option.isSome_none,Do,if_false];rw [hc1,<- hF,Bl,getElem!_pos _ t ht];have:d[t]?=some d[t]:=Ab (by omega)
   rw [this];simp
  have hcmp:CmpLays1 P g #[] (Held.val (X:=X) (w:=w) (enc:=enc)) (λx y=>cf x.x y.x) gb 0 d.toArray.size w:=by
   intro m os dk hdk x y;generalize hW:sortWorld Held.val w gb 0 m dk os=W;have hWs:w.heap.size<=W.heap.size:=hW▸sort1_size _ _;have hWb:∀ b,b<w.heap.size->¬ X b->W.heap[b]?=w.heap[b]?:=λb hb hx=>hW▸v8 _ _ hb λh=>hx (h▸hXg)
   have hXW:∀ b,X b->b<W.heap.size:=λb hb=>Nat.lt_of_lt_of_le (hXl b hb) hWs
   have hel:∀ z:Held X w 1 enc,RelL X e W ((enc z.x).map .d) [z.val]:=λz=>by
    have:=relL_d (X:=X) (e:=e) (w:=W) (enc z.x) z.vs (by rw [z.len,hes]) λj hj=>by
     obtain⟨v,q1,q2⟩:=z.rep j hj;exact⟨v,q1,RepC.keep hWs hWb (λ_ _ h=>h) q2⟩
    rw [z.vs1] at this;exact this
   have hk:=(hc x.x y.x).2 X (e.ren id 0) W [x.val,y.val] ⟨λ_=>Iff.rfl,by simp,by simp,by simp [ae],by simp [ae],rfl,rfl,rfl,λ_=>Af _,Af _,λ_ _ _=>rfl,λb hb=>⟨hXW b hb,by simp [ae]⟩,(hTw.grow hWs).sub (by simp [ae]),λj hj=>absurd hj (A6 j),λj hj=>absurd hj (A6 j)⟩ ?_
   ·refine hk.mono ?_;rintro en w' ⟨k',r,H',e',v,⟨rfl,hlr,rfl⟩,rfl,hH2,hrel⟩;refine⟨?_,grown_eq hH2.os hH2.tape hH2.output (hH2.drawn rfl) hH2.size λb hb=>hH2.block b hb (by simp [ae])⟩
    cases hrel;rfl
   ·have hXX:∀ b,Ctx.X ⟨P,τ,τok,X,W,λb=>b∈ae (e.ren id 0) [],0,0,(e.ren id 0).an,none,cy,true,true⟩ (e.ren id 0) [] b↔X b:=λb=>by unfold Ctx.X;simp [ae]
    refine RelL.keep (Af _) (λ_ _ _=>rfl) (λb _ h=>(hXX b).1 h) _ _ (X:=X) (w:=W) ?_;rw [Av];exact RelL.append _ _ _ _ (RelL.env _ _ (lowL_d _) (hel x)) (RelL.env _ _ (lowL_d _) (hel y))
  have hOα:SWO (ltOf λx y:Held X w 1 enc=>cf x.x y.x):=⟨λx=>hO.irrefl x.x,λx y z=>hO.trans x.x y.x z.x,λx y z=>hO.ntrans x.x y.x z.x⟩
  have eg:∀ args w,(callFunc g args).run P w = .ok (.enter g args) w:=wx ((if h:l.length=0 then by omega else (hc (l[0]'hpos) (l[0]'hpos)).1));have hone:OneCell (Held.val (X:=X) (w:=w) (enc:=enc)):=λx=>x.one _ (by rw [x.vs1];simp)
  have hs:=Any.slices_SortFunc L (Held.val (X:=X) (w:=w) (enc:=enc)) hone (λx y=>cf x.x y.x) hOα g #[] gb 0 cap d.toArray w eg hcmp hHold hgb (by simpa [hdl] using hl);have hsz:d.toArray.size=l.length:=by simpa using hdl
  rw [hsz] at hs;rw [hv];refine hs.mono ?_;rintro en w' ⟨rfl,d',m,os,hp,hso,rfl⟩;have hd's:d'.size=l.length:=hp.1.trans hsz;have hperm:d'.toList.Perm d:=by
   have:=hp.2.2
   rwa [show d'.extract 0 l.length=d' by rw [<- hd's];simp,show d.toArray.extract 0 l.length=d.toArray by rw [<- hsz];simp] at this
  refine⟨rfl,sort1_size _ _,rfl,rfl,rfl,λc hc hne=>v8 _ _ hc λh=>hne (by rw [howned,h]),d'.toList.map Held.x,d1▸hperm.map _,?_,?_⟩
  ·rw [List.pairwise_map,List.pairwise_iff_getElem];intro i j hi hj hij;have h1:=hso i j (Ai _) hij (by simpa [hd's] using hj);rw [getElem!_pos d' i (by simpa using hi),getElem!_pos d' j (by simpa using hj)] at h1;have h2:¬ cf d'[j].x d'[i].x<0:=of_decide_eq_false h1;simp only [Gn];omega
  ·have hl':(d'.toList.map Held.x).length=l.length:=by simp [hd's]
   refine⟨d'.toList.map Held.val,⟨?_,.inr ⟨gb,cap,_,hv▸?_,Ai _,sort1_heap _ _ hblk,?_,hcm,by simp [putCells,hcs],?_⟩⟩,?_,?_,?_⟩
   ·simp
   ·simp [hd's]
   ·simp [hd's];exact hnc
   ·have:(d'.toList.map Held.x).length*1=d'.size:=by simp
    rw [Aa,this];exact take_putCells1 _ _ _ (by rw [hd's,hcs];omega)
   ·intro j hj;rw [C5];exact hes _
   ·intro v hv';obtain⟨z,_,rfl⟩:=List.mem_map.1 hv';exact hone z
   ·intro i' hi' j hj;rw [Aa,hl'] at hi';have hz:i'<d'.size:=by omega
    simp only [C5,Gn] at hj ⊢;have hj0:j=0:=by have:=hes (d'[i'].x);omega
    subst hj0;obtain⟨v,q1,q2⟩:=d'[i'].rep 0 (by simpa using hj);refine⟨v,?_,RepC.keep (sort1_size _ _) (λb hb hx=>v8 _ _ hb λh=>hx (h▸hXg)) (λb _ h=>h) q2⟩
    rw [Bl,Ce,Nat.mul_one,Nat.add_zero,Dy hz];rw [d'[i'].vs1] at q1;simpa using q1
end
open Go Go.RowKit Go.Sort
variable [Bnds]
theorem swoL:Go.Sort.SWO (ltOf dj) where
 irrefl x:=by unfold ltOf;rw [ordL_self];rfl
 trans x y z h g:=decide_eq_true (ub (of_decide_eq_true h) (of_decide_eq_true g))
 ntrans x y z h g:=by
  have h:=of_decide_eq_false h;have g:=of_decide_eq_false g;refine decide_eq_false ?_;have:=ry (a:=z) (b:=y) (c:=x) (by rw [kl];omega) (by rw [kl];omega)
  rw [kl] at this;omega
theorem sortWaysO_c:SortC Tryz.prog 117 105 22 1 encWO dj:=λl hl _ _ _ _ h1 h2 h3 h4 =>
 sort_row1 (ρ:=Tryz.sortWays_ren) Tryz.sortWays encWO (λ_=>rfl) dj swoL 105 (λa b=>(vh true a b).ofWeak _ rfl) 22 l hl h1 h2 h3 h4
attribute [local irreducible] DW DS DL DQ Ev FnOk FnP dp bh DT
theorem s0 (a b:List Int):Fn 100 [.d (.slice 1 (a.map ah)),.d (.slice 1 (b.map ah))] (λr=>r = .d (.bool (decide (a=b)))):=by
 refine fqE Tryz.func100 ?_;intro O w0 E0 β0;have la:(a.map ah).length=a.length:=Aa _;have lb:(b.map ah).length=b.length:=Aa _;refine l9 (t:=0) rfl (λhk=>?_);by_cases hl:a.length=b.length
 ·repeat' (first|refine zr ?_|(refine zm ?_ ?_<;>intro hg)|(exfalso;omega))
  refine ak (ι:=Nat) (λi=>⟨0,[(0,.d (.slice 1 (a.map ah))),(1,.d (.slice 1 (b.map ah))),(12,.d (.int .i64 a.length)),(13,.d (.int .i64 i))],[]⟩)
   (λi=>i<=a.length/\a.take i=b.take i) (λi=>a.length-i) 0 ⟨Ai _,rfl⟩ (ag id ⟨rfl,rfl,by rw [<- la];rfl,rfl,trivial⟩ trivial rfl rfl rfl rfl rfl rfl) ?_
  rintro i ⟨g1,g2⟩;dsimp only at g1 g2 ⊢;by_cases hi:i<a.length
  ·have hb:i<b.length:=by omega
   by_cases he:a[i]=b[i]
   ·repeat' (first|refine zr ?_|(refine zm ?_ ?_<;>intro hg)|(exfalso;omega))
    all_goals try (exfalso;exact hg he)
    exact⟨i+1,⟨hi,by rw [Am hi,Am hb,g2,he]⟩,er id,by omega⟩
   ·have hne:a≠b:=λh=>he (by subst h;rfl)
    rw [decide_eq_false hne];repeat' (first|refine zr ?_|(refine zm ?_ ?_<;>intro hg)|(exfalso;omega))
    all_goals exact⟨.inl rfl,_,rfl,rfl,rfl⟩
  ·rw [Ak (by omega),Ak (by omega)] at g2;rw [decide_eq_true g2];repeat' (first|refine zr ?_|(refine zm ?_ ?_<;>intro hg)|(exfalso;omega))
   all_goals exact⟨.inl rfl,_,rfl,rfl,rfl⟩
 ·have hne:a≠b:=λh=>hl (by rw [h])
  rw [decide_eq_false hne];repeat' (first|refine zr ?_|(refine zm ?_ ?_<;>intro hg)|(exfalso;omega))
  all_goals exact⟨.inl rfl,_,rfl,rfl,rfl⟩
theorem compactWO_fn (l:List (List Int)) (hn:l.Nodup) (hl:l.length<=1000000):FnOk false Tryz.prog tab bp 118 [.row 0,.fn 100 []] 0 1 [(0,.row 22 1 (l.map encWO))] (λ_ r H=>r = .d (.own Bnds.B (.slice 1 (l.map cx)))/\H=[]):=by
 refine fn_enterF _ Tryz.func118 rfl rfl (by kernel_rfl) ?_;intro O w0 E0 β0;have ll:(l.map encWO).length=l.length:=Aa _;by_cases h2:l.length<2
 ·repeat' (first|refine zs ?_|(refine zm ?_ ?_<;>intro hg)|(exfalso;omega))
  refine au (ko (xs:=l.map cx) 4 (e6 owns_way _) rfl rfl rfl) ?_;repeat' (first|refine zr ?_|fail)
  exact⟨.inl rfl,_,rfl,0,[],trivial,rfl,rfl,rfl,rfl,rfl,rfl⟩
 ·repeat' (first|refine zs ?_|(refine zm ?_ ?_<;>intro hg)|(exfalso;omega))
  refine ak (ι:=Nat) (λi=>⟨1,[(0,.row 0),(1,.fn 100 []),(5,.d (.int .i64 i))],[(0,.row 22 1 (l.map encWO))]⟩)
   (λi=>1<=i/\i<=l.length) (λi=>l.length-i) 1 ⟨by omega,by omega⟩ (er id) ?_
  rintro i ⟨g0,g1⟩;by_cases hi:i<l.length
  ·have hne:l[i]≠l[i-1]'(by omega):=λh=>by
    have:=(List.getElem_inj hn).1 h
    omega
   have hs:Fn 100 [.d (.own Bnds.B (.slice 1 ((l[i]).map ah))),.d (.own Bnds.B (.slice 1 ((l[((i:Int)-1).toNat]'(by omega)).map ah)))] (λr=>r = .d (.bool false)):=by
    have e:((i:Int)-1).toNat=i-1:=by omega
    simp only [e];have h:=s0 l[i] (l[i-1]'(by omega));rw [decide_eq_false hne] at h;exact h.ofWeak _ rfl
   repeat' (first|refine zs ?_|(apply pb;exact rfl;exact rfl;exact rfl;exact rfl;apply hs;exact rfl;(exact rfl);exact rfl;exact rfl;exact⟨_,rfl⟩;rintro _ rfl)|(refine zm ?_ ?_<;>intro hg)|(exfalso;omega))
   exact⟨i+1,⟨by omega,by omega⟩,er id,by show l.length-(i+1)<l.length-i;omega⟩
  ·repeat' (first|refine zs ?_|(refine zm ?_ ?_<;>intro hg)|(exfalso;omega))
   refine au (ko (xs:=l.map cx) 4 (e6 owns_way _) rfl rfl rfl) ?_;repeat' (apply dv)
   exact⟨.inl rfl,_,rfl,0,[],trivial,rfl,rfl,rfl,rfl,rfl,rfl⟩
open Go Go.RowKit
variable [Bnds]
def manyW (S:List Fct) (r:Rul):Bool:=decide ((pn S r.vars.toNat r.body).length<=2000)
def dg (S:List Fct) (r:Rul):List (List Int):=if manyW S r then pn S r.vars.toNat r.body else []
structure RulS (S:List Fct) (r:Rul):Prop where
 ok:okB S r.vars.toNat r.body
 bd:Bd r.body (An r.vars.toNat false)
 vars:0<=r.vars/\r.vars<=8
theorem rawO_fn (S:List Fct) (r:Rul) (hS:Strict S) (hS2:S.length<=4398046511104) (hr:RulS S r):Fn 60 [k8 r,.d (.slice 2 (S.map aa))] (λres=>res = .tup [.d (.own Bnds.B (.slice 1 ((dg S r).map cx))),.d (.bool (manyW S r))]):=by
 refine fqE Tryz.func60 ?_;intro O w0 E0 β0;have hv:=hr.vars;have hnd:S.Nodup:=hS.imp λh he=>by subst he;exact lt_irrefl h
 obtain⟨p1,p2,p3⟩:=jq hnd hr.ok.lit hr.bd;have w:=find_fn r S hS hS2 r.body.length r.body rfl (e0 r.vars.toNat) [] (by rw [show (e0 r.vars.toNat).length=r.vars.toNat from Ci];exact hr.ok) (λv x hx=>by
  unfold e0 at hx;rw [D6] at hx;split at hx<;>simp at hx) (by rw [hasE_e0];exact hr.bd) (by simp)
 have hlen:(pn S r.vars.toNat r.body).length=(im S r.body.length r.body (e0 r.vars.toNat)).length:=((fk S r.vars.toNat r.body).trans p1.symm).length_eq;have hnodup:=(p1.nodup_iff).2 p2;have hperm:=p1;clear p1 p2 p3;have hfew:qy (im S r.body.length r.body (e0 r.vars.toNat)) []=manyW S r:=by unfold qy manyW;rw [hlen];simp
 rw [hfew] at w;have hput:manyW S r=true->na (im S r.body.length r.body (e0 r.vars.toNat)) []=im S r.body.length r.body (e0 r.vars.toNat):=λh=>by
  unfold manyW at h;have:=of_decide_eq_true h
  unfold na;rw [Hn,Ak (by omega)]
 generalize im S r.body.length r.body (e0 r.vars.toNat)=fw at *;generalize na fw []=pw at *;repeat' (first|refine zs ?_|(exfalso;omega))
 refine dt_new rfl rfl rfl ⟨rfl,hv.1,?_,?_⟩ rfl rfl rfl rfl rfl ?_
 ·show 8*r.vars.toNat<=_;omega
 ·unfold maxLen;omega
 repeat' refine z5 ?_
 refine dt_new rfl rfl rfl ⟨rfl,hv.1,?_,?_⟩ rfl rfl rfl rfl rfl ?_
 ·show 1*r.vars.toNat<=_;omega
 ·unfold maxLen;omega
 repeat' ((fail_if_success (apply cp 2));(first|refine zs ?_|fail))
 refine au (ib 10 9 22 1 rfl rfl rfl) ?_;refine au (ag (k':=5) (L':=[(2,.loc 4 0),(6,.loc 0 0)]) (H':=(4,.blk 64 [.d (.int .i64 r.pred),.d (.slice 2 (r.terms.map aw)),.d (.int .i64 r.fold),.d (.slice 4 (r.body.map ay)),.d (.int .i64 r.vars)])::pfH r S (e0 r.vars.toNat) []) (λj=>match j with|0=>10|1=>5|2=>8|3=>12|4=>0|j=>j)
  ⟨rfl,rfl,trivial⟩ ⟨rfl,rfl,by rw [outE_e0,C2];rfl,by rw [hasE_e0,C2];rfl,rfl,trivial⟩ rfl rfl rfl rfl rfl rfl) ?_
 repeat' (first|refine zs ?_|fail)
 (refine bk id (w) rfl rfl rfl rfl ⟨rfl,rfl,rfl,rfl,trivial⟩ rfl rfl rfl rfl rfl rfl ?_ ?_)
 ·rintro k2 res H2 ⟨rfl,rfl,rfl⟩;exact⟨rfl,rfl⟩
 rintro k2 res H2 ⟨rfl,rfl,rfl⟩;change DS _ _ _ _ _ _ _ _;clear w;unfold dg;cases hm:manyW S r with
 | false =>
  rw [if_neg (by simp)];repeat' (first|refine zs ?_|(exfalso;omega))
  refine au (cz 4 1 rfl) ?_;repeat' (first|refine zr ?_|fail)
  exact⟨.inl rfl,_,rfl,rfl,rfl⟩
 | true =>
  have hp:=hput hm;have hl2:fw.length<=2000:=by rw [<- hlen];unfold manyW at hm;exact of_decide_eq_true hm
  rw [if_pos rfl];subst hp;repeat' (first|refine zs ?_|(exfalso;omega))
  refine ds_sort sortWaysO_c pw (by kernel_rfl) rfl rfl rfl rfl rfl rfl (by omega) ?_;intro l' h6 h7;have hsort:SortW l':=h7.imp fun {a b} h=>by rw [kl];omega
  have hl':l'=pn S r.vars.toNat r.body:=r7 hsort (h6.trans hperm);have hnd':l'.Nodup:=h6.nodup_iff.2 hnodup;have w2:=compactWO_fn l' hnd' (by rw [h6.length_eq];omega);rw [<- hl'];repeat' (first|refine zs ?_|(exfalso;omega))
  refine bk (λ_=>8) w2 rfl rfl rfl rfl ⟨rfl,trivial⟩ rfl rfl rfl rfl rfl rfl ?_ ?_
  ·rintro k2 res H2 ⟨rfl,rfl⟩;exact⟨rfl,rfl⟩
  rintro k2 res H2 ⟨rfl,rfl⟩;change DS _ _ _ _ _ _ _ _;repeat' (first|refine zr ?_|fail)
  exact⟨.inl rfl,_,rfl,rfl,rfl⟩
theorem raw_fn (S:List Fct) (r:Rul) (hS:Strict S) (hS2:S.length<=4398046511104) (hr:RulS S r):Fn 60 [k8 r,.d (.slice 2 (S.map aa))] (λres=>res = .tup [.d (.slice 1 ((dg S r).map cx)),.d (.bool (manyW S r))]):=(rawO_fn S r hS hS2 hr).unown
variable [Bnds]
theorem ordL_nil:dj [] []=0:=rfl
theorem ordL_drop {a b:List Int} (hl:a.length=b.length) {i:Nat} (hi:i<a.length):dj (a.drop i) (b.drop i)=if i4 a[i] (b[i]'(by omega))=0 then dj (a.drop (i+1)) (b.drop (i+1)) else i4 a[i] (b[i]'(by omega)):=by
 rw [Ao hi,Ao (show i<b.length by omega),dj]
theorem cmpI_eq0 {a b:Int}:i4 a b=0↔a=b:=by unfold i4;repeat' split<;>omega
theorem lessInts_fn (a b:List Int) (hl:a.length=b.length):Fn 161 [.d (.slice 1 (a.map ah)),.d (.slice 1 (b.map ah))] (λr=>r = .d (.bool (decide (dj a b<0)))):=by
 refine fqE Tryz.func161 ?_;intro O w0 E0 β0;have la:(a.map ah).length=a.length:=Aa _;have lb:(b.map ah).length=b.length:=Aa _;refine l9 (t:=0) rfl (λhk=>?_);repeat' (first|refine zs ?_|fail)
 refine ak (ι:=Nat) (λi=>⟨0,[(0,.d (.slice 1 (a.map ah))),(1,.d (.slice 1 (b.map ah))),(5,.d (.int .i64 i))],[]⟩)
  (λi=>i<=a.length/\dj a b=dj (a.drop i) (b.drop i)) (λi=>a.length-i) 0 ⟨Ai _,rfl⟩ (er id) ?_
 rintro i ⟨g1,g2⟩;dsimp only at g1 g2 ⊢;by_cases hi:i<a.length
 ·rw [ordL_drop hl hi] at g2;by_cases he:a[i]=b[i]'(by omega)
  ·rw [if_pos (cmpI_eq0.2 he)] at g2;repeat' (first|refine zr ?_|(refine zm ?_ ?_<;>intro hg)|(exfalso;omega))
   all_goals try (exfalso;exact hg he)
   exact⟨i+1,⟨hi,g2⟩,er id,by omega⟩
  ·rw [if_neg (λh=>he (cmpI_eq0.1 h))] at g2;rw [g2];repeat' (first|refine zr ?_|(refine zm ?_ ?_<;>intro hg)|(exfalso;omega))
   all_goals try (exfalso;exact hg he)
   exact cm rfl (by simp only [cmpI_lt])
 ·rw [Ax (by omega),Ax (by omega)] at g2;rw [g2,ordL_nil];repeat' (first|refine zr ?_|(refine zm ?_ ?_<;>intro hg)|(exfalso;omega))
  exact⟨.inl rfl,_,rfl,rfl,rfl⟩
theorem sortedTo_le {o:List (List Int)} {i j:Nat} (h:v6 o i) (hj:j<=i):v6 o j:=λp q a b h1 h2=>h p q a b h1 (by omega)
theorem swap_set {o:List (List Int)} {k:Nat} {a b:List Int}:((o.map cx).set k (cx a)).set (k-1) (cx b)=(swapW o k a b).map cx:=by unfold swapW;rw [Dc,Dc]
theorem waysOf_fn (l:List Fct) (r:Rul) (hl:l.length<=60) (hr:RulS (av l) r):Fn 113 [k8 r,.d (.slice 2 (l.map aa))] (λres=>res = .tup [.d (.slice 1 ((dg (av l) r).map cx)),.d (.bool (manyW (av l) r))]):=by
 refine fqE Tryz.func113 ?_;intro O w0 E0 β0;have hv:=hr.vars;have hS:=(a8 l).1;have w1:=wu l (by omega);have hSl:(av l).length<=60:=Nat.le_trans (sa l []) hl;generalize av l=S at *;have hnd:S.Nodup:=hS.imp λh he=>by subst he;exact lt_irrefl h
 obtain⟨_,p2,p3⟩:=jq hnd hr.ok.lit hr.bd;have w:=from_fn r S (by omega) (r.body.length-0) 0 rfl (Ai _) (e0 r.vars.toNat) [] false (by rw [show (e0 r.vars.toNat).length=r.vars.toNat from Ci];exact hr.ok) (λv x hx=>by
  unfold e0 at hx;rw [D6] at hx;split at hx<;>simp at hx) (by simp)
 rw [show re r.body 0=jl r.body from rfl] at w;have hlen:(pn S r.vars.toNat r.body).length=(dt S r.body (jl r.body) (e0 r.vars.toNat)).length:=(fk S r.vars.toNat r.body).length_eq;have hlens:∀ x∈dt S r.body (jl r.body) (e0 r.vars.toNat),x.length=r.vars.toNat:=λx hx=>((p3 x).1 hx).1
 have huniq:∀ o:List (List Int),SortW o->o.Perm (dt S r.body (jl r.body) (e0 r.vars.toNat))->o=pn S r.vars.toNat r.body:=λo h1 h2=>r7 h1 h2
 clear p3;generalize dt S r.body (jl r.body) (e0 r.vars.toNat)=fw at *;have hadd:pc fw ([],false)=(fw.take 2000,!manyW S r):=by
  unfold pc manyW;rw [hlen];simp only [Do,if_false,List.length_nil,Hn,Nat.sub_zero,Nat.zero_add];rw [<- decide_not];exact congrArg _ (decide_eq_decide.2 (by omega))
 rw [hadd] at w;repeat' ((fail_if_success (apply e8 2));(first|refine zs ?_|refine z22 ?_ (hc:=by apply w1)|fail))
 all_goals try (exfalso;omega)
 refine au (ib 5 6 22 1 rfl rfl rfl) ?_;refine au (ag (k':=3) (L':=[(2,.loc 2 0),(6,.loc 0 0)]) (H':=(2,.blk 64 [.d (.int .i64 r.pred),.d (.slice 2 (r.terms.map aw)),.d (.int .i64 r.fold),.d (.slice 4 (r.body.map ay)),.d (.int .i64 r.vars)])::rh r S [] false) (λj=>match j with|0=>5|1=>7|2=>0|j=>j)
  ⟨rfl,rfl,trivial⟩ ⟨rfl,rfl,rfl,trivial⟩ rfl rfl rfl rfl rfl rfl) ?_
 refine ru 6 (by kernel_rfl) (by kernel_rfl) (by kernel_rfl) rfl rfl rfl ?_;repeat' refine z5 ?_
 refine dt_new rfl rfl rfl ⟨rfl,hv.1,?_,?_⟩ rfl rfl rfl rfl rfl ?_
 ·show 8*r.vars.toNat<=_;omega
 ·unfold maxLen;omega
 repeat' refine z5 ?_
 refine dt_new rfl rfl rfl ⟨rfl,hv.1,?_,?_⟩ rfl rfl rfl rfl rfl ?_
 ·show 1*r.vars.toNat<=_;omega
 ·unfold maxLen;omega
 repeat' refine z11 ?_
 refine jw (cr 15 rfl rfl rfl) ?_;refine jw (cr 18 rfl rfl rfl) ?_;have en:An r.vars.toNat [D.int .i64 0]=(bl (e0 r.vars.toNat)).map ah:=by rw [outE_e0,C2];rfl
 have es:An r.vars.toNat [D.bool false]=(bm (e0 r.vars.toNat)).map bz:=by rw [hasE_e0,C2];rfl
 rw [<- en,<- es] at w;(refine bk id (w) rfl rfl rfl rfl ⟨rfl,rfl,trivial⟩ rfl rfl rfl rfl rfl rfl ?_ ?_)
 ·rintro k2 res H2 ⟨rfl,rfl,rfl⟩;exact⟨rfl,rfl⟩
 rintro k2 res H2 ⟨rfl,rfl,rfl⟩;change DS _ _ _ _ _ _ _ _;clear w en es;unfold dg;cases hm:manyW S r with
 | false =>
  rw [if_neg (by simp)];repeat' (first|refine zs ?_|(exfalso;omega))
  refine au (dz 4 1 rfl) ?_;repeat' (first|refine zr ?_|fail)
  exact⟨.inl rfl,_,rfl,rfl,rfl⟩
 | true =>
  have hl2:fw.length<=2000:=by rw [<- hlen];unfold manyW at hm;exact of_decide_eq_true hm
  rw [if_pos rfl,Ak hl2];repeat' (first|refine zs ?_|(exfalso;omega))
  refine ak (ι:=Nat×List (List Int)) (λx=>⟨2,[(6,.loc 0 0),(7,.d (.int .i64 x.1))],rh r S x.2 false⟩)
   (λx=>1<=x.1/\x.1<=fw.length+1/\x.2.Perm fw/\v6 x.2 x.1) (λx=>fw.length+1-x.1) (1,fw) ⟨Af _,by dsimp only;omega,.refl _,λp q _ _ _ _=>by dsimp only at *;omega⟩ (er (λj=>match j with|1=>10|j=>j)) ?_
  rintro⟨i,o⟩ ⟨g1,g2,g3,g4⟩;dsimp only at g1 g2 g3 g4 ⊢;have lo:(o.map cx).length=o.length:=Aa _;have lof:=g3.length_eq;by_cases hi:i<o.length
  ·repeat' (first|refine zr ?_|(refine zm ?_ ?_<;>intro hg)|(exfalso;omega))
   refine ak (ι:=Nat×List (List Int)) (λx=>⟨2,[(6,.loc 0 0),(7,.d (.int .i64 i)),(8,.d (.int .i64 x.1))],rh r S x.2 false⟩)
    (λx=>x.1<=i/\x.2.Perm fw/\insOk x.2 x.1 i) (λx=>x.1) (i,o) ⟨Af _,g3,sortedTo_ins g4⟩ (er id) ?_
   clear g3 g4 lo;rintro⟨k,o⟩ ⟨f1,f2,f3⟩;dsimp only at f1 f2 f3 ⊢;have lo:(o.map cx).length=o.length:=Aa _;have lof2:=f2.length_eq;cases k with
   | zero =>
    repeat' (first|refine zs ?_|(exfalso;omega))
    exact⟨(i+1,o),⟨by dsimp only;omega,by dsimp only;omega,f2,λp q a b h1 h2=>insOk_done f3 (.inl rfl) p q a b h1 (by dsimp only at h2;omega)⟩,er id,by show fw.length+1-(i+1)<fw.length+1-i;omega⟩
   | succ j =>
    have hj1:j+1<o.length:=by omega
    have hj0:j<o.length:=by omega
    have e1:o[j+1]?=some o[j+1]:=Ab hj1;have e0:o[j]?=some o[j]:=Ab hj0;have w3:=lessInts_fn o[j+1] o[j] ((hlens _ (f2.mem_iff.1 (Ag hj1))).trans (hlens _ (f2.mem_iff.1 (Ag hj0))).symm);have hpm:j+1<(o.map cx).length/\∀ y∈o.map cx,y.length=1:=rowOk hj1 λ_=>rfl
    have hpk:j<((o.map cx).set (j+1) [D.slice 1 (o[j].map ah)]).length/\∀ y∈(o.map cx).set (j+1) [D.slice 1 (o[j].map ah)],y.length=1:=⟨by rw [A3];omega,λy hy=>by
     rcases List.mem_or_eq_of_mem_set hy with h|h
     ·exact hpm.2 y h
     ·rw [h];rfl⟩
    cases hb:decide (dj o[j+1] o[j]<0) with
    | false =>
     rw [hb] at w3;repeat' (first|refine zs ?_|refine z22 ?_ (hc:=by apply w3)|(refine zm ?_ ?_<;>intro hg)|(exfalso;omega))
     exact⟨(i+1,o),⟨by dsimp only;omega,by dsimp only;omega,f2,λp q a b h1 h2=>insOk_done f3 (.inr ⟨_,_,G6 j,e0,e1,of_decide_eq_false hb⟩) p q a b h1 (by dsimp only at h2;omega)⟩,er id,by show fw.length+1-(i+1)<fw.length+1-i;omega⟩
    | true =>
     rw [hb] at w3;repeat' (first|refine zs ?_|refine z22 ?_ (hc:=by apply w3)|(refine zm ?_ ?_<;>intro hg)|(exfalso;omega))
     have hsw:=swap_set (o:=o) (k:=j+1) (a:=o[j]) (b:=o[j+1]);exact⟨(j,swapW o (j+1) o[j] o[j+1]),⟨by dsimp only;omega,(swapW_perm (G6 j) e0 e1).trans f2,insOk_swap (G6 j) hj1 f1 e0 e1 (of_decide_eq_true hb) f3⟩,ag id ⟨rfl,rfl,congrArg (λz=>SV.d (D.int .i64 z)) (bq j),trivial⟩ ⟨rfl,by rw [<- hsw];rfl,trivial⟩ rfl rfl rfl rfl rfl rfl,Nat.lt_succ_self j⟩
  ·have hall:=huniq o (sortedTo_all (sortedTo_le g4 (by omega))) g3;rw [<- hall];repeat' (first|refine zs ?_|(refine zm ?_ ?_<;>intro hg)|(exfalso;omega))
   refine au (cr 4 rfl rfl rfl) ?_;repeat' (apply dv)
   exact⟨.inl rfl,_,rfl,rfl,rfl⟩
variable [Bnds]
theorem rrule_fn (p:Prg) (r:Rul):Fn 143 [db p,k8 r] (λx=>x = .d (.int .i64 (mg p.arity r))):=by
 refine fqE Tryz.func143 ?_;intro O w0 E0 β0;have la:(p.arity.map ah).length=p.arity.length:=Aa _;have lb:(r.terms.map aw).length=r.terms.length:=Aa _;have lc:(r.body.map ay).length=r.body.length:=Aa _;refine ew 0 0 rfl rfl (λhk=>?_);refine ew 1 1 rfl rfl (λhk2=>?_);refine ew 1 3 rfl rfl (λhk3=>?_);have w1:=em r.pred 0 (((p.arity.map ah).length:Int)-1);have w2:=em r.vars 0 8;have w3:=em r.fold 0 4;have hR:mg p.arity r=mg p.arity r:=rfl;conv at hR=>rhs;unfold mg
 rw [hR];rw [<- la,<- lb,<- lc];by_cases hp:inR r.pred 0 (((p.arity.map ah).length:Int)-1)=true
 ·have hp':=k5 hp;have hA:=arity_at (p:=p) (n:=r.pred) (by omega) (by omega);rw [hp] at w1 ⊢;rw [if_neg (show ¬ (true=false) by decide),hA];by_cases hv:inR r.vars 0 8=true
  ·have hv':=k5 hv;rw [hv] at w2 ⊢;rw [if_neg (show ¬ (true=false) by decide)];have w4:=rterms_fn r.terms r.vars hv'.1 hv'.2;clear hv hp hA hR;generalize nw r.vars r.terms=te at w4 ⊢;by_cases hfo:inR r.fold 0 4=true
   ·have hf':=k5 hfo;rw [hfo] at w3 ⊢;rw [if_neg (show ¬ (true=false) by decide)];repeat' (first|refine zr ?_|refine z21 ?_ (hc:=by apply w1)|refine z21 ?_ (hc:=by apply w2)|refine z21 ?_ (hc:=by apply w3)|refine z21 ?_ (hc:=by apply w4)|(refine zm ?_ ?_<;>intro hg)|fail)
    all_goals try (refine br rfl ?_;(repeat' split)<;>(first|rfl|(exfalso;omega)))
    all_goals
     have hb4:r.body.length<=4:=by omega
     have hfin:∀ e,b8 (j7 p.arity r.vars) r.body=e->(if (((r.terms.map aw).length:Nat):Int)≠p.arity[r.pred.toNat]'(by omega) then 1 else if te≠0 then te else if r.fold≠0/\((r.terms.map aw).length=0∨(r.body.map ay).length=0) then 1 else if 4<(r.body.map ay).length then 2 else if b8 (j7 p.arity r.vars) r.body≠0 then b8 (j7 p.arity r.vars) r.body else if ri r=false then 4 else 0)=if e≠0 then e else if ri r=false then 4 else 0:=by
      rintro e rfl;(repeat' split)<;>(first|rfl|(exfalso;omega))
     generalize (if (((r.terms.map aw).length:Nat):Int)≠p.arity[r.pred.toNat]'(by omega) then 1 else if te≠0 then te else if r.fold≠0/\((r.terms.map aw).length=0∨(r.body.map ay).length=0) then 1 else if 4<(r.body.map ay).length then 2 else if b8 (j7 p.arity r.vars) r.body≠0 then b8 (j7 p.arity r.vars) r.body else if ri r=false then 4 else 0)=res at hfin ⊢;refine ak (ι:=Nat) (λi=>⟨2,[(2,.loc 0 0),(3,.loc 1 0),(4,.d (.int .i64 0)),(5,.d (.int .i64 (p.arity.map ah).length)),(7,.d (.int .i64 i))],[(0,prgB p),(1,nu r)]⟩)
      (λi=>i<=r.body.length/\b8 (j7 p.arity r.vars) r.body=b8 (j7 p.arity r.vars) (r.body.drop i)) (λi=>r.body.length-i) 0 ⟨Ai _,rfl⟩ (er id) ?_
     rintro i ⟨g1,g2⟩;by_cases hi:i<r.body.length
     ·rw [gz hi] at g2;repeat' ((fail_if_success (apply iz 21));(first|refine zs ?_|(refine zm ?_ ?_<;>intro hg)|fail))
      all_goals try (exfalso;omega)
      generalize r.body[i]=l at g2 ⊢;have hret:∀ e,j7 p.arity r.vars l=e->e≠0->e=res:=by
       rintro e rfl he;rw [if_pos he] at g2;rw [hfin _ g2,if_pos he]
      obtain⟨NX,hN,hnext⟩:∃ NX:Prop,(NX->b8 (j7 p.arity r.vars) r.body=b8 (j7 p.arity r.vars) (r.body.drop (i+1)))/\(j7 p.arity r.vars l=0->NX):=by
       refine⟨_,id,λhe=>?_⟩
       rw [if_neg (by rw [he];decide)] at g2;exact g2
      clear hfin g2;refine au (ag (k':=3) (L':=[(2,.loc 0 0),(3,.loc 1 0),(4,.d (.int .i64 0)),(5,.d (.int .i64 (p.arity.map ah).length)),(7,.d (.int .i64 i)),(8,.loc 2 0)]) (H':=[(0,prgB p),(1,nu r),(2,litB l)]) id ⟨rfl,rfl,rfl,rfl,rfl,rfl,trivial⟩ ⟨rfl,rfl,rfl,trivial⟩ rfl rfl rfl rfl rfl rfl) ?_;obtain⟨kind,op,pred,terms⟩:=l;have lt:(terms.map aw).length=terms.length:=Aa _;have wt:=rterms_fn terms r.vars hv'.1 hv'.2;have k1:=em kind 1 4;have wp:=em pred 0 (((p.arity.map ah).length:Int)-1);have wo3:=em op 1 4;have wo4:=em op 5 7;unfold j7 opB at hret hnext;dsimp only [litB] at hret hnext ⊢;rw [<- la,<- lt] at hret hnext;generalize nw r.vars terms=tl at wt hret hnext;generalize inR op 1 4=o3 at wo3 hret hnext;generalize inR op 5 7=o4 at wo4 hret hnext;by_cases hk1:inR kind 1 4=true
      ·have hk':=k5 hk1;rw [hk1] at hret hnext k1;by_cases hpp:inR pred 0 (((p.arity.map ah).length:Int)-1)=true
       ·have hpp':=k5 hpp;have hA':=arity_at (p:=p) (n:=pred) (by omega) (by omega);rw [hpp] at hret hnext wp;rw [hA'] at hret hnext;clear hpp hA' hk1;rcases (show kind=1∨kind=2∨kind=3∨kind=4 by omega) with rfl|rfl|rfl|rfl
        all_goals repeat' (first|refine zr ?_|refine z21 ?_ (hc:=by apply k1)|refine z21 ?_ (hc:=by apply wp)|refine z21 ?_ (hc:=by apply wo3)|refine z21 ?_ (hc:=by apply wo4)|refine z21 ?_ (hc:=by apply wt)|(refine zm ?_ ?_<;>intro hg)|fail)
        all_goals first
         | (exfalso;omega)
         | (refine br rfl (hret _ ?_ ?_)<;>(clear hret hnext hN k1 wp wo3 wo4 wt w1 w2 w3 w4;(repeat' split)<;>(first|rfl|assumption|decide|(exfalso;omega)|contradiction|(exfalso;simp_all;done))))
         | (refine⟨i+1,⟨by omega,hN (hnext ?_)⟩,er id,by show r.body.length-(i+1)<r.body.length-i;omega⟩;(clear hret hnext hN k1 wp wo3 wo4 wt w1 w2 w3 w4;(repeat' split)<;>(first|omega|contradiction|(exfalso;simp_all;done))))
       ·rw [Dj] at hpp;rw [hpp] at hret hnext wp;clear hpp hk1;rcases (show kind=1∨kind=2∨kind=3∨kind=4 by omega) with rfl|rfl|rfl|rfl
        all_goals repeat' (first|refine zr ?_|refine z21 ?_ (hc:=by apply k1)|refine z21 ?_ (hc:=by apply wp)|refine z21 ?_ (hc:=by apply wo3)|refine z21 ?_ (hc:=by apply wo4)|refine z21 ?_ (hc:=by apply wt)|(refine zm ?_ ?_<;>intro hg)|fail)
        all_goals first
         | (exfalso;omega)
         | (refine br rfl (hret _ ?_ ?_)<;>(clear hret hnext hN k1 wp wo3 wo4 wt w1 w2 w3 w4;(repeat' split)<;>(first|rfl|assumption|decide|(exfalso;omega)|contradiction|(exfalso;simp_all;done))))
         | (refine⟨i+1,⟨by omega,hN (hnext ?_)⟩,er id,by show r.body.length-(i+1)<r.body.length-i;omega⟩;(clear hret hnext hN k1 wp wo3 wo4 wt w1 w2 w3 w4;(repeat' split)<;>(first|omega|contradiction|(exfalso;simp_all;done))))
      ·rw [Dj] at hk1;rw [hk1] at hret k1;repeat' (first|refine zr ?_|refine z21 ?_ (hc:=by apply k1)|fail)
       all_goals exact br rfl (hret _ rfl (by decide))
     ·rw [jh (by omega)] at g2;have hall:=rq g2;have w7:=safe_fn r hb4 hv'.1 hv'.2 (λl hl=>(litE_ok hv'.1 (hall l hl)).1) (λl hl=>(litE_ok hv'.1 (hall l hl)).2);rw [hfin 0 g2,if_neg (by decide)];generalize ri r=sb at w7 ⊢;repeat' (first|refine zr ?_|refine z21 ?_ (hc:=by apply w7)|(refine zm ?_ ?_<;>intro hg)|fail)
      all_goals first
       | (exfalso;omega)
       | (refine br rfl ?_;simp_all;done)
   ·rw [Dj] at hfo;rw [hfo] at w3 ⊢;repeat' (first|refine zr ?_|refine z21 ?_ (hc:=by apply w1)|refine z21 ?_ (hc:=by apply w2)|refine z21 ?_ (hc:=by apply w3)|refine z21 ?_ (hc:=by apply w4)|(refine zm ?_ ?_<;>intro hg)|fail)
    all_goals (refine br rfl ?_;(repeat' split)<;>(first|rfl|(exfalso;omega)|contradiction))
  ·rw [Dj] at hv;rw [hv] at w2 ⊢;repeat' (first|refine zr ?_|refine z21 ?_ (hc:=by apply w1)|refine z21 ?_ (hc:=by apply w2)|(refine zm ?_ ?_<;>intro hg)|fail)
   all_goals (refine br rfl ?_;(repeat' split)<;>(first|rfl|(exfalso;omega)|contradiction))
 ·rw [Dj] at hp;rw [hp] at w1 ⊢;rw [if_pos rfl];repeat' (first|refine zr ?_|refine z21 ?_ (hc:=by apply w1)|fail)
  all_goals exact br rfl rfl
variable [Bnds]
theorem rcheck_fn (p:Prg):Fn 80 [db p] (λx=>x = .d (.int .i64 (dw dx p))):=by
 refine fqE Tryz.func80 ?_;intro O w0 E0 β0;have la:(p.arity.map ah).length=p.arity.length:=Aa _;have lb:(p.names.map dl).length=p.names.length:=Aa _;have lc:(p.rules.map a6).length=p.rules.length:=Aa _;refine ew 0 0 rfl rfl (λhk=>?_);refine ew 0 1 rfl rfl (λhk1=>?_);refine ew 0 2 rfl rfl (λhk2=>?_);unfold dw;by_cases h1:10<p.arity.length∨12<p.rules.length
 ·rw [if_pos h1];repeat' (first|refine zr ?_|(refine zm ?_ ?_<;>intro hg)|fail)
  all_goals first
   | (exfalso;omega)
   | exact br rfl rfl
 ·rw [if_neg h1];by_cases h2:p.names.length≠p.arity.length
  ·rw [if_pos h2];repeat' (first|refine zr ?_|(refine zm ?_ ?_<;>intro hg)|fail)
   all_goals first
    | (exfalso;omega)
    | exact br rfl rfl
  ·rw [if_neg h2];generalize hres:(if ij (o6 dx p) 0 p.names.length≠0 then ij (o6 dx p) 0 p.names.length else b8 (mg p.arity) p.rules)=res;repeat' (first|refine zr ?_|(refine zm ?_ ?_<;>intro hg)|(exfalso;omega))
   refine ak (ι:=Nat) (λi=>⟨1,[(1,.loc 0 0),(2,.d (.int .i64 0)),(3,.d (.int .i64 i))],[(0,prgB p)]⟩)
    (λi=>i<=p.names.length/\ij (o6 dx p) 0 p.names.length=ij (o6 dx p) i (p.names.length-i)) (λi=>p.names.length-i) 0 ⟨Ai _,rfl⟩ (er id) ?_
   rintro i ⟨g1,g2⟩;by_cases hi:i<p.names.length
   ·have ha:p.arity.getD i 0=p.arity[i]'(by omega):=by rw [List.getD,Ab (by omega)];rfl
    have hn:p.names.getD i ⟨#[]⟩=p.names[i]:=by rw [List.getD,Ab hi];rfl
    rw [firstI_step hi,show o6 dx p i=if inR (p.arity.getD i 0) 0 3=false then 3 else if dx (p.names.getD i ⟨#[]⟩)=false then 1 else if (p.names.take i).any (λs=>decide (s=p.names.getD i ⟨#[]⟩)) then 6 else 0 from rfl,ha,hn] at g2;have wn:=isName_fn p.names[i];have wa:=em (p.arity[i]'(by omega)) 0 3;generalize inR (p.arity[i]'(by omega)) 0 3=ba at g2 wa;generalize dx p.names[i]=bn at g2 wn;have hret:∀ e,e≠0->ij (o6 dx p) 0 p.names.length=e->e=res:=by
     rintro e he h;rw [<- hres,h,if_pos he]
    cases ba with
    | false =>
     repeat' (first|refine zr ?_|refine z21 ?_ (hc:=by apply wa)|(refine zm ?_ ?_<;>intro hg)|fail)
     all_goals first
      | (exfalso;omega)
      | exact br rfl (hret 3 (by decide) g2)
    | true =>
     cases bn with
     | false =>
      repeat' (first|refine zr ?_|refine z21 ?_ (hc:=by apply wa)|refine z21 ?_ (hc:=by apply wn)|(refine zm ?_ ?_<;>intro hg)|fail)
      all_goals first
       | (exfalso;omega)
       | exact br rfl (hret 1 (by decide) g2)
     | true =>
      have lt:(p.names.take i).length=i:=by simp;omega
      repeat' (first|refine zs ?_|refine z21 ?_ (hc:=by apply wa)|refine z21 ?_ (hc:=by apply wn)|(refine zm ?_ ?_<;>intro hg)|(exfalso;omega))
      refine ak (ι:=Nat) (λj=>⟨1,[(1,.loc 0 0),(2,.d (.int .i64 0)),(3,.d (.int .i64 i)),(4,.d (.int .i64 j))],[(0,prgB p)]⟩)
       (λj=>j<=i/\(p.names.take i).any (λs=>decide (s=p.names[i]))=((p.names.take i).drop j).any (λs=>decide (s=p.names[i]))) (λj=>i-j) 0 ⟨Ai _,rfl⟩ (er id) ?_
      rintro j ⟨e1,e2⟩;by_cases hj:j<i
      ·rw [Ao (by omega),List.any_cons,List.getElem_take] at e2;repeat' (first|refine zr ?_|(refine zm ?_ ?_<;>intro hg)|(exfalso;omega))
       ·have hh:p.names[j]'(by omega)=p.names[i]:=by assumption
        rw [decide_eq_true hh,Bool.true_or] at e2;rw [e2] at g2;exact br rfl (hret 6 (by decide) g2)
       ·have hh:¬ p.names[j]'(by omega)=p.names[i]:=by assumption
        rw [decide_eq_false hh,Bool.false_or] at e2;exact⟨j+1,⟨by omega,e2⟩,er id,by show i-(j+1)<i-j;omega⟩
      ·rw [Ax (by omega)] at e2;rw [e2] at g2;repeat' (first|refine zr ?_|(refine zm ?_ ?_<;>intro hg)|(exfalso;omega))
       exact⟨i+1,⟨by omega,g2⟩,er id,by show p.names.length-(i+1)<p.names.length-i;omega⟩
   ·rw [firstI_end (by omega)] at g2;have hres:b8 (mg p.arity) p.rules=res:=by rw [<- hres,g2,if_neg (by decide)]
    repeat' (first|refine zs ?_|(refine zm ?_ ?_<;>intro hg)|(exfalso;omega))
    refine ak (ι:=Nat) (λj=>⟨1,[(1,.loc 0 0),(2,.d (.int .i64 0)),(5,.d (.int .i64 j))],[(0,prgB p)]⟩)
     (λj=>j<=p.rules.length/\res=b8 (mg p.arity) (p.rules.drop j)) (λj=>p.rules.length-j) 0 ⟨Ai _,hres.symm⟩ (er id) ?_
    rintro j ⟨e1,e2⟩;by_cases hj:j<p.rules.length
    ·rw [gz hj] at e2;have w6:=rrule_fn p p.rules[j];generalize mg p.arity p.rules[j]=le at w6 e2;repeat' (first|refine zr ?_|refine z22 ?_ (hc:=by apply w6)|(refine zm ?_ ?_<;>intro hg)|fail)
     all_goals first
      | (exfalso;omega)
      | (refine br rfl ?_;rw [e2,if_pos (by assumption)];done)
      | exact⟨j+1,⟨by omega,by rw [e2,if_neg (by assumption)]⟩,er id,by show p.rules.length-(j+1)<p.rules.length-j;omega⟩
    ·rw [jh (by omega)] at e2;repeat' (first|refine zr ?_|(refine zm ?_ ?_<;>intro hg)|fail)
     all_goals first
      | (exfalso;omega)
      | exact br rfl e2.symm
variable [Bnds]
theorem tokAt_37 (l:List UInt8):(cb (37::l)).1=0:=by
 rw [ey,if_neg (by unfold eu gi ju;decide),if_neg (by unfold ct;decide),if_neg (by unfold mh;cases l<;>simp),if_neg (by decide)]
theorem tokAt_32 (l:List UInt8):(cb (32::l)).1=0:=by
 rw [ey,if_neg (by unfold eu gi ju;decide),if_neg (by unfold ct;decide),if_neg (by unfold mh;cases l<;>simp),if_neg (by decide)]
theorem tokAt_9 (l:List UInt8):(cb (9::l)).1=0:=by
 rw [ey,if_neg (by unfold eu gi ju;decide),if_neg (by unfold ct;decide),if_neg (by unfold mh;cases l<;>simp),if_neg (by decide)]
theorem tokAt_10 (l:List UInt8):(cb (10::l)).1=0:=by
 rw [ey,if_neg (by unfold eu gi ju;decide),if_neg (by unfold ct;decide),if_neg (by unfold mh;cases l<;>simp),if_neg (by decide)]
theorem tokErr_kind {k:Int} {n:Nat} {c:UInt8} (h:ea k n c=0):k≠0:=by
 intro hk;rw [tokErr_eq,if_pos hk] at h;cases h
theorem drop_byte (s:ByteArray) (i:Nat) (h:i<s.size):s.data.toList.drop i=s[i]::s.data.toList.drop (i+1):=by
 rw [Ao (by simpa using h)];rfl
theorem ext_list (s:ByteArray) (i n:Nat):(s.extract i (i+n)).data.toList=(s.data.toList.drop i).take n:=by
 simp [ByteArray.data_extract,Array.toList_extract,List.extract_eq_take_drop]
theorem bytes_inj {a b:ByteArray} (h:a.data.toList=b.data.toList):a=b:=ByteArray.ext (Array.ext' h)
theorem scan_one (s:ByteArray) (i:Nat) (k:Int) (n:Nat) (h:i<s.size) (ht:cb (s.data.toList.drop i)=(k,n)) (he:ea k n s[i]=0) :
  cn s false i=(cn s false (i+n)).map (Tok.mk k i (s.extract i (i+n))::·):=by
 have hk:=tokErr_kind he;have hd:=drop_byte s i h;have hb:∀ c:UInt8,(∀ l,(cb (c::l)).1=0)->s[i]≠c:=by
  intro c hc e;rw [hd,e] at ht;have:=hc (s.data.toList.drop (i+1))
  rw [ht] at this;exact hk this
 have h37:=hb 37 tokAt_37;have h32:=hb 32 tokAt_32;have h9:=hb 9 tokAt_9;have h10:=hb 10 tokAt_10;have:=scanAt_tok s i h (by simpa using h37) (by simp [h32,h9,h10]) (by rw [ht];exact he)
 rw [ht] at this;exact this
def Chain (s:ByteArray):Nat->List Tok->Prop
 | _,[]=>True
 | i,t::l=>∃ j,i<=j/\t.at_=j/\(∃ h:j<s.size,cb (s.data.toList.drop j)=(t.kind,t.text.size)/\ea t.kind t.text.size s[j]=0)/\j+t.text.size<=s.size/\t.text=s.extract j (j+t.text.size)/\Chain s (j+t.text.size) l
theorem Chain.mono {s:ByteArray} {i i':Nat} {l:List Tok} (h:Chain s i' l) (hi:i<=i'):Chain s i l:=by
 cases l with
 | nil=>trivial
 | cons t l =>
  obtain⟨j,h1,h2⟩:=h;exact⟨j,Nat.le_trans hi h1,h2⟩
theorem scanGo_chain (s:ByteArray):∀ (f:Nat) (note:Bool) (i:Nat) (l:List Tok),gj s f note i = .ok l->Chain s i l:=by
 intro f;induction f with
 | zero =>
  intro note i l h;simp only [gj] at h;cases h;trivial
 | succ f ih =>
  intro note i l h;simp only [gj] at h;by_cases hi:i<s.size
  ·rw [dif_pos hi] at h;split at h
   ·exact (ih _ _ _ h).mono (by omega)
   ·split at h
    ·exact (ih _ _ _ h).mono (by omega)
    ·split at h
     ·rename_i he;cases hr:gj s f false (i+(cb (s.data.toList.drop i)).2) with
      | error e=>rw [hr] at h;cases h
      | ok l' =>
       rw [hr] at h;cases h;have hle:=tokAt_le (s.data.toList.drop i);rw [B9,show s.data.toList.length=s.size from A4] at hle;have hsz:(s.extract i (i+(cb (s.data.toList.drop i)).2)).size=(cb (s.data.toList.drop i)).2:=by rw [ByteArray.size_extract];omega
       exact⟨i,Af _,rfl,⟨hi,by rw [hsz],by rw [hsz];exact he⟩,by rw [hsz];omega,by rw [hsz],by rw [hsz];exact ih _ _ _ hr⟩
     ·cases h
  ·rw [dif_neg hi] at h;cases h;trivial
theorem scanGo_err (s:ByteArray):∀ (f:Nat) (note:Bool) (i:Nat) (p e:Int),gj s f note i = .error (p,e)->e≠0:=by
 intro f;induction f with
 | zero =>
  intro note i p e h;simp only [gj] at h;cases h
 | succ f ih =>
  intro note i p e h;simp only [gj] at h;by_cases hi:i<s.size
  ·rw [dif_pos hi] at h;split at h
   ·exact ih _ _ _ _ h
   ·split at h
    ·exact ih _ _ _ _ h
    ·split at h
     ·cases hr:gj s f false (i+(cb (s.data.toList.drop i)).2) with
      | error e'=>rw [hr] at h;cases h;exact ih _ _ _ _ hr
      | ok l'=>rw [hr] at h;cases h
     ·rename_i he;injection h with h
      injection h with h1 h2
      rw [<- h2];exact he
  ·rw [dif_neg hi] at h;cases h
theorem scanS_chain (s:ByteArray) (l:List Tok) (p:Int) (h:vf s=(l,p,0)):Chain s 0 l/\s.size<=5000/\p=0:=by
 unfold vf at h;split at h
 ·injection h with h1 h2;injection h2 with h2 h3;cases h3
 ·rename_i hs;split at h
  ·rename_i l' hl;injection h with h1 h2
   injection h2 with h2 h3
   subst h1;unfold cn at hl;exact⟨scanGo_chain _ _ _ _ _ hl,by omega,h2.symm⟩
  ·rename_i p' e hl;injection h with h1 h2
   injection h2 with h2 h3
   subst h1;unfold cn at hl;exact absurd h3 (scanGo_err _ _ _ _ _ _ hl)
theorem isTok_eq (kind:Int) (s:ByteArray):isTok kind s=true↔∃ h:0<s.size,s.size<=5000/\cb s.data.toList=(kind,s.size)/\ea kind s.size s[0]=0:=by
 unfold isTok;by_cases h:0<s.size
 ·rw [dif_pos h];simp only [Ad,decide_eq_true_eq];constructor
  ·rintro⟨⟨⟨⟨h1,h2⟩,h3⟩,h4⟩,h5⟩;exact⟨h,h1,Prod.ext h3 h4,h5⟩
  ·rintro⟨_,h1,h2,h3⟩;exact⟨⟨⟨⟨h1,tokErr_kind h3⟩,by rw [h2]⟩,by rw [h2]⟩,h3⟩
 ·rw [dif_neg h];exact⟨λh'=>absurd h' Bool.false_ne_true,fun⟨h',_⟩=>absurd h' h⟩
theorem oneS_eq (kind:Int) (s:ByteArray):oneS kind s=isTok kind s:=by
 rw [Bool.eq_iff_iff,isTok_eq];constructor
 ·intro h;unfold oneS at h;split at h
  ·rename_i t p e hs;simp only [Ad,decide_eq_true_eq] at h;obtain⟨h1,h2,h3⟩:=h;subst h1;obtain⟨⟨j,g1,g2,⟨g3,g4,g5⟩,g6,g7,_⟩,hsz,_⟩:=scanS_chain s [t] p hs;rw [h3] at g4 g5 g6;have hj:j=0:=by omega
   subst hj;rw [h2] at g4 g5;exact⟨g3,hsz,g4,g5⟩
  ·cases h
 ·rintro⟨h,h1,h2,h3⟩;have:=scan_one s 0 kind s.size h h2 h3
  rw [tr s false (0+s.size) (by omega)] at this;have hext:s.extract 0 (0+s.size)=s:=bytes_inj (by rw [ext_list,D5];exact Ak (Nat.le_of_eq (A4 (xs:=s.data))));rw [hext] at this;unfold oneS;rw [scanS_ok s (by omega) _ this];simp
end
section
open Go Go.RowKit
variable [Bnds]
theorem name_eq:xh=dx:=by
 funext s;unfold xh dx;rw [oneS_eq]
theorem scheck_fn (p:Prg):Fn 109 [db p] (λx=>x = .d (.int .i64 (dw dx p))):=name_eq▸check_fn p
end
end Go.Proofs.YtapciiffpnociadGreat
