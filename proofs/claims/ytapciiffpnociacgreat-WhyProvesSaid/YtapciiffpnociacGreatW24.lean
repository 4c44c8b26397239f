/- Several texts in one: WhF WhG WhH WhI WhJ WhK WhL WhM WhN. Condition: none. -/
import Derived.Test.YtapciiffpnociacGreatW23
namespace Go.Proofs.YtapciiffpnociacGreat
theorem heads_pred {r:Rul} {ws:List (List Int)} {f:Fct} (h:f∈headsD r ws):f.pred=r.pred:=by
 rw [headsD_eq] at h
 obtain⟨w,hw,h⟩:=List.mem_filterMap.1 h
 unfold headD at h
 split at h
 ·simp only [Option.some.injEq] at h
  rw [← h]
 ·split at h
  ·simp only [Option.some.injEq] at h
   rw [← h]
  ·cases h
theorem RuleM.mem {p:Prg} {m:List Fct} {r:Rul} (hM:RuleM p m r) (hS:Strict m) (a:List Int):a∈rawW m r↔a.length=r.vars.toNat∧∀ l∈r.body,holdE m l a=true:=by
 have hnd:m.Nodup:=hS.imp fun h he=>by subst he;exact lt_irrefl h
 obtain⟨_,_,p3⟩:=ways_perm hnd hM.s.ok.lit hM.s.bd
 have heq:rawW m r=waysL m r.vars.toNat r.body:=by unfold rawW;rw [if_pos hM.many]
 rw [heq,(waysL_perm _ _ _).mem_iff,p3]
theorem ruleStep_is {p:Prg} {m:List Fct} {r:Rul} (hM:RuleM p m r) {ahead:List Stp} {x:Stp} (h:ruleStepB r m ahead x=true):x.vars∈rawW m r∧x.fact.pred=r.pred∧x.fact.args.length=r.terms.length:=by
 unfold ruleStepB at h
 rw [Bool.and_eq_true] at h
 refine⟨any_mem h.1,?_⟩
 have h2:=h.2
 by_cases hf:r.fold=0
 ·rw [if_pos hf,Bool.and_eq_true] at h2
  have h3:=ordF_eq0 (of_decide_eq_true h2.1)
  rw [← h3]
  exact⟨rfl,aW_len _ _⟩
 ·rw [if_neg hf,Bool.and_eq_true] at h2
  have h3:=((bw _).2 _).1 (hasF_iff.1 h2.1)
  exact⟨heads_pred h3,(head_way h3 (fun _=>(hM.ok.rul.folded hf).1)).1⟩
theorem ruleStep_not {p:Prg} {m:List Fct} {r:Rul} (hM:RuleM p m r) {ahead:List Stp} {x:Stp} (h:¬ (x.vars∈rawW m r∧x.fact.pred=r.pred∧x.fact.args.length=r.terms.length)):ruleStepB r m ahead x=false:=by
 cases hb:ruleStepB r m ahead x with
 | false=>rfl
 | true=>exact absurd (ruleStep_is hM hb) h
theorem ruleStep_rest {r:Rul} {m:List Fct} {ahead:List Stp} {x:Stp} (h1:x.vars∈rawW m r) (h2:x.fact.pred=r.pred):ruleStepB r m ahead x =
  if r.fold=0 then ((r.body.filter kind1).all fun z=>hasS ahead (yesF x.vars z)) && decide (aW r x.vars=x.fact.args) else decide ((aW r x.vars).take (r.terms.length - 1)=x.fact.args.take (r.terms.length - 1)) && hasF (hdW m r) x.fact:=by
 have hany:((rawW m r).any fun w=>decide (w=x.vars))=true:=List.any_eq_true.2 ⟨_,h1,decide_eq_true rfl⟩
 unfold ruleStepB
 rw [hany,Bool.true_and]
 by_cases hf:r.fold=0
 ·rw [if_pos hf,if_pos hf,Bool.and_comm]
  congr 1
  refine decide_eq_decide.2 ⟨fun h=>?_,fun h=>?_⟩
  ·rw [← ordF_eq0 h]
  ·have:(⟨r.pred,aW r x.vars⟩:Fct)=x.fact:=by
    cases hx:x.fact with
    | mk a b=>rw [hx] at h h2;dsimp only at h h2;rw [h,h2]
   rw [this,ordF_self]
 ·rw [if_neg hf,if_neg hf,Bool.and_comm]
  congr 1
  exact decide_eq_decide.2 eq_comm
open Go Go.RowKit
attribute [local irreducible] DW DS DL DQ Ev FnOk FnP thenD b7 DT
abbrev stH (p:Prg) (r:Rul) (x:Stp):Hp:=[(2,.blk 36 [.d (.int .i64 r.pred),.d (.slice 2 (r.terms.map bm)),.d (.int .i64 r.fold),.d (.slice 4 (r.body.map bp)),.d (.int .i64 r.vars)]),(1,.blk 81 [.d (.int .i64 x.fact.pred),.d (.slice 1 (x.fact.args.map bf)),.d (.int .i64 x.rule),.d (.slice 1 (x.vars.map bf))]),(0,.blk 26 [.d (.slice 1 (p.arity.map bf)),.d (.slice 1 (p.names.map encT)),.d (.slice 5 (p.rules.map co))])]
set_option maxHeartbeats 8000000 in
theorem isStep_fn (p:Prg) (l m:List Fct) (ahead:List Stp) (x:Stp) (hx:ModelR p l 0 m) :
  Fn 74 [elPrg p,.d (.slice 2 (l.map ay)),.d (.slice 2 (m.map ay)),.d (.slice 4 (ahead.map bt)),elStp x] (fun res=>res = .d (.bool (stepB p l m ahead x))):=by
 have ho:=mOk hx.ok0
 obtain⟨s1,s2,s3⟩:=hx.strict
 refine au _ Tryz.func74 rfl rfl (by kernel_rfl) ?_
 intro O w0 E0 β0
 have lr:(p.rules.map co).length=p.rules.length:=List.length_map _
 have lv:(x.vars.map bf).length=x.vars.length:=List.length_map _
 have lx:(x.fact.args.map bf).length=x.fact.args.length:=List.length_map _
 have hrl:=ho.pr.rlen
 by_cases h1:x.rule = -1
 ·have w1:=hasFact_fn l x.fact
  have hst:stepB p l m ahead x=(hasF l x.fact && decide (x.vars.length=0)):=if_pos h1
  have hd:decide (((x.vars.map bf).length:Int)=0)=decide (x.vars.length=0):=by rw [lv];simp
  rw [hst,← hd]
  cases hb:hasF l x.fact with
  | true =>
   rw [hb] at w1
   rw [Bool.true_and]
   repeat' (first|refine z0 ?_|apply ag|apply ae|refine z16 ?_|apply ai|apply ak|apply aa|apply av|refine z21 ?_ (hc:=by apply w1)|refine z1 ?_|(refine z23 ?_ ?_ <;> intro hg)|fail)
   all_goals try (exfalso;omega)
   all_goals exact⟨.inl rfl,_,rfl,rfl,rfl⟩
  | false =>
   rw [hb] at w1
   rw [Bool.false_and]
   repeat' (first|refine z0 ?_|refine z12 ?_|apply ag|apply ae|refine z16 ?_|apply ai|apply ak|apply aa|apply av|refine z21 ?_ (hc:=by apply w1)|refine z1 ?_|(refine z23 ?_ ?_ <;> intro hg)|fail)
   all_goals try (exfalso;omega)
   all_goals exact⟨.inl rfl,_,rfl,rfl,rfl⟩
 ·have w1:=sbetween_fn x.rule 0 (((p.rules.map co).length:Int) - 1)
  by_cases hr:0≤x.rule∧x.rule.toNat < p.rules.length
  ·have hst:stepB p l m ahead x=ruleStepB (p.rules[x.rule.toNat]'hr.2) m ahead x:=by unfold stepB;rw [if_neg h1,dif_pos hr]
   rw [hst]
   rw [show inR x.rule 0 (((p.rules.map co).length:Int) - 1)=true by unfold inR;rw [Bool.and_eq_true,decide_eq_true_iff,decide_eq_true_iff];omega] at w1
   have hM:=hx.rule (List.getElem_mem hr.2)
   repeat' ((fail_if_success (apply cv 6));(first|refine z0 ?_|apply ag|apply ae|refine z16 ?_|apply ai|refine z19 ?_|apply aa|refine z21 ?_ (hc:=by apply w1)|refine z1 ?_|refine z3 ?_|(refine z23 ?_ ?_ <;> intro hg)|fail))
   all_goals try (exfalso;omega)
   generalize p.rules[x.rule.toNat]'hr.2=r at hM ⊢
   clear w1 hst lr
   have lt:(r.terms.map bm).length=r.terms.length:=List.length_map _
   have lb:(r.body.map bp).length=r.body.length:=List.length_map _
   have ht3:=hM.ok.tlen
   have hb4:=hM.s.ok.len
   have hv8:=hM.ok.rul.vars
   by_cases hg0:(x.vars.length:Int)=r.vars∧x.fact.pred=r.pred∧x.fact.args.length=r.terms.length
   rotate_left
   ·rw [ruleStep_not hM (ahead:=ahead) (x:=x) fun h=>hg0 ⟨by have:=hM.ok.len _ h.1;omega,h.2⟩]
    repeat' (first|refine z0 ?_|refine z12 ?_|apply ag|apply ae|refine z16 ?_|apply ah|apply ai|apply ak|refine z18 ?_|apply aa|apply av|(refine z23 ?_ ?_ <;> intro hg)|((fail_if_success (apply a8;exact rfl));apply a6;exact rfl;exact rfl;exact rfl;all_goals intro hg))
    all_goals try (exfalso;omega)
    all_goals exact⟨.inl rfl,_,rfl,rfl,rfl⟩
   obtain⟨hv,hp,ha⟩:=hg0
   repeat' (first|refine z0 ?_|refine z12 ?_|apply ag|apply ae|refine z16 ?_|apply ah|apply ai|apply ak|refine z18 ?_|apply aa|apply av|(refine z23 ?_ ?_ <;> intro hg)|((fail_if_success (apply a8;exact rfl));apply a6;exact rfl;exact rfl;exact rfl;all_goals intro hg))
   all_goals try (exfalso;omega)
   refine bh (ι:=Nat) (fun i=>⟨3,[(2,.d (.slice 2 (m.map ay))),(3,.d (.slice 4 (ahead.map bt))),(5,.loc 0 0),(9,.loc 1 0),(11,.loc 2 0),(12,.d (.int .i64 i))],stH p r x⟩)
    (fun i=>i≤x.vars.length∧(x.vars.take i).all numB=true) (fun i=>x.vars.length - i) 0 ⟨Nat.zero_le _,rfl⟩ (aj id ⟨rfl,rfl,rfl,rfl,rfl,rfl,trivial⟩ ⟨rfl,rfl,rfl,trivial⟩ rfl rfl rfl rfl rfl rfl) ?_
   rintro i ⟨g1,g2⟩
   dsimp only at g1 g2 ⊢
   by_cases hi:i < x.vars.length
   ·have w1:=sisNumber_fn x.vars[i]
    cases hb:numB x.vars[i] with
    | false =>
     rw [hb] at w1
     rw [ruleStep_not hM (ahead:=ahead) (x:=x) fun h=>by
      have:=numB_of (hM.ok.nums _ h.1 _ (List.getElem_mem hi))
      rw [hb] at this
      cases this]
     repeat' (first|refine z0 ?_|apply ag|apply ae|refine z16 ?_|apply ah|apply ai|apply aq|apply ak|refine z18 ?_|apply aa|apply ap|apply av|apply bq|refine z17 ?_|refine z21 ?_ (hc:=by apply w1)|(refine z23 ?_ ?_ <;> intro hg)|fail)
     all_goals try (exfalso;omega)
     all_goals exact⟨.inl rfl,_,rfl,rfl,rfl⟩
    | true =>
     rw [hb] at w1
     repeat' (first|refine z0 ?_|apply ag|apply ae|refine z16 ?_|apply ah|apply ai|apply aq|refine z19 ?_|apply aa|apply ap|apply aw|refine z17 ?_|refine z21 ?_ (hc:=by apply w1)|(refine z23 ?_ ?_ <;> intro hg)|fail)
     all_goals try (exfalso;omega)
     exact⟨i + 1,⟨hi,by rw [List.take_succ_eq_append_getElem hi,List.all_append,g2];simp [hb]⟩,aj id ⟨rfl,rfl,rfl,rfl,rfl,rfl,trivial⟩ ⟨rfl,rfl,rfl,trivial⟩ rfl rfl rfl rfl rfl rfl,by omega⟩
   ·rw [List.take_of_length_le (by omega)] at g2
    have hnum:=List.all_eq_true.1 g2
    repeat' (first|refine z0 ?_|apply ag|apply ae|refine z16 ?_|apply ah|apply ai|apply aq|apply aa|apply ap|refine z17 ?_|(refine z23 ?_ ?_ <;> intro hg)|fail)
    all_goals try (exfalso;omega)
    clear g1 g2 hi
    refine bh (ι:=Nat) (fun i=>⟨3,[(2,.d (.slice 2 (m.map ay))),(3,.d (.slice 4 (ahead.map bt))),(5,.loc 0 0),(9,.loc 1 0),(11,.loc 2 0),(13,.d (.int .i64 i))],stH p r x⟩)
     (fun i=>i≤r.body.length∧∀ z∈r.body.take i,holdE m z x.vars=true) (fun i=>r.body.length - i) 0 ⟨Nat.zero_le _,by simp⟩ (aj id ⟨rfl,rfl,rfl,rfl,rfl,rfl,trivial⟩ ⟨rfl,rfl,rfl,trivial⟩ rfl rfl rfl rfl rfl rfl) ?_
    rintro i ⟨g1,g2⟩
    dsimp only at g1 g2 ⊢
    have hvn:r.vars.toNat=x.vars.length:=by omega
    by_cases hi:i < r.body.length
    ·have hm:=List.getElem_mem hi
     have ho:=hM.s.ok.lit _ hm
     rw [hvn] at ho
     have w1:=litHolds_fn m r.body[i] x.vars ho (hM.s.ok.op _ hm) (fun _ t ht=>by
      unfold vA
      split
      ·exact hM.s.ok.nums _ hm t ht
      ·rename_i hvv
       have hlt:t.var.toNat < x.vars.length:=by have:=ho.terms t ht;unfold okT at this;omega
       rw [List.getD,List.getElem?_eq_getElem hlt]
       exact numB_in (hnum _ (List.getElem_mem hlt))) (by have:=hM.s.ok.tlen _ hm;omega)
     cases hb:holdE m r.body[i] x.vars with
     | false =>
      rw [hb] at w1
      rw [ruleStep_not hM (ahead:=ahead) (x:=x) fun h=>by
       have:=((hM.mem s1 _).1 h.1).2 _ hm
       rw [hb] at this
       cases this]
      repeat' (first|refine z0 ?_|apply ag|refine z5 ?_|refine z10 ?_|apply ae|refine z16 ?_|refine z20 ?_|apply ah|apply ai|apply aq|apply ak|refine z18 ?_|apply aa|apply ap|apply av|apply bq|refine z17 ?_|refine z22 ?_ (hc:=by apply w1)|(refine z23 ?_ ?_ <;> intro hg)|fail)
      all_goals try (exfalso;omega)
      all_goals exact⟨.inl rfl,_,rfl,rfl,rfl⟩
     | true =>
      rw [hb] at w1
      repeat' (first|refine z0 ?_|apply ag|refine z5 ?_|refine z10 ?_|apply ae|refine z16 ?_|refine z20 ?_|apply ah|apply ai|apply aq|refine z19 ?_|apply aa|apply ap|apply aw|refine z17 ?_|refine z22 ?_ (hc:=by apply w1)|(refine z23 ?_ ?_ <;> intro hg)|fail)
      all_goals try (exfalso;omega)
      refine⟨i + 1,⟨hi,fun z hz=>?_⟩,aj id ⟨rfl,rfl,rfl,rfl,rfl,rfl,trivial⟩ ⟨rfl,rfl,rfl,trivial⟩ rfl rfl rfl rfl rfl rfl,by omega⟩
      rw [List.take_succ_eq_append_getElem hi] at hz
      rcases List.mem_append.1 hz with hz|hz
      ·exact g2 z hz
      ·rw [List.mem_singleton] at hz
       rw [hz];exact hb
    ·rw [List.take_of_length_le (by omega)] at g2
     have hmem:=(hM.mem s1 x.vars).2 ⟨hvn.symm,g2⟩
     rw [ruleStep_rest hmem hp]
     have w1:=argsOf_fn r.terms x.vars (hM.ok.terms hmem) (by omega)
     repeat' ((fail_if_success (apply cv 19));(first|refine z0 ?_|apply ag|refine z5 ?_|apply ae|refine z16 ?_|refine z20 ?_|apply ah|apply ai|apply aq|apply aa|apply ap|refine z17 ?_|refine z21 ?_ (hc:=by apply w1)|(refine z23 ?_ ?_ <;> intro hg)|fail))
     all_goals try (exfalso;omega)
     clear w1
     rw [show r.terms.map (vA x.vars)=aW r x.vars from rfl]
     have hfo:=hM.ok.rul.fold
     by_cases hf:r.fold=0
     ·rw [if_pos hf]
      repeat' (first|refine z0 ?_|apply ag|apply ae|refine z16 ?_|apply ah|apply ai|apply aa|(refine z23 ?_ ?_ <;> intro hg)|fail)
      all_goals try (exfalso;omega)
      clear g1 g2 hi
      refine bh (ι:=Nat) (fun i=>⟨3,[(3,.d (.slice 4 (ahead.map bt))),(9,.loc 1 0),(11,.loc 2 0),(14,.d (.slice 1 ((aW r x.vars).map bf))),(18,.d (.int .i64 i))],stH p r x⟩)
       (fun i=>i≤r.body.length∧((r.body.filter kind1).all fun z=>hasS ahead (yesF x.vars z))=(((r.body.drop i).filter kind1).all fun z=>hasS ahead (yesF x.vars z))) (fun i=>r.body.length - i) 0 ⟨Nat.zero_le _,rfl⟩ (aj id ⟨rfl,rfl,rfl,rfl,rfl,trivial⟩ ⟨rfl,rfl,rfl,trivial⟩ rfl rfl rfl rfl rfl rfl) ?_
      rintro i ⟨g1,g3⟩
      dsimp only at g1 g3 ⊢
      by_cases hi:i < r.body.length
      ·have hm:=List.getElem_mem hi
       have ho1:=(hM.s.ok.lit _ hm).terms
       rw [hvn] at ho1
       have ho2:r.body[i].terms.length≤4398046511104:=by have:=hM.s.ok.tlen _ hm;omega
       have w2:=argsOf_fn r.body[i].terms x.vars ho1 ho2
       have w3:=hasStep_fn ahead (yesF x.vars r.body[i])
       rw [List.drop_eq_getElem_cons hi,List.filter_cons] at g3
       by_cases hk:r.body[i].kind=1
       ·rw [if_pos (show kind1 r.body[i]=true from decide_eq_true hk),List.all_cons] at g3
        cases hb:hasS ahead (yesF x.vars r.body[i]) with
        | true =>
         rw [hb,Bool.true_and] at g3
         rw [hb] at w3
         repeat' (first|refine z0 ?_|apply ag|refine z5 ?_|refine z14 ?_|refine z10 ?_|apply ae|refine z16 ?_|refine z20 ?_|apply ah|apply ai|apply aq|refine z19 ?_|apply aa|apply ap|apply aw|refine z17 ?_|refine z22 ?_ (hc:=by apply w2)|refine z22 ?_ (hc:=by apply w3)|refine z1 ?_|refine z3 ?_|(refine z23 ?_ ?_ <;> intro hg)|((fail_if_success (apply dt_known;exact rfl));apply c8;exact rfl;exact rfl;exact rfl;all_goals intro hg))
         all_goals try (exfalso;omega)
         all_goals exact⟨i + 1,⟨hi,g3⟩,aj id ⟨rfl,rfl,rfl,rfl,rfl,trivial⟩ ⟨rfl,rfl,rfl,trivial⟩ rfl rfl rfl rfl rfl rfl,by omega⟩
        | false =>
         rw [hb,Bool.false_and] at g3
         rw [hb] at w3
         rw [g3,Bool.false_and]
         repeat' (first|refine z0 ?_|apply ag|refine z5 ?_|refine z14 ?_|refine z10 ?_|apply ae|refine z16 ?_|refine z20 ?_|apply ah|apply ai|apply aq|apply ak|refine z18 ?_|refine z19 ?_|apply aa|apply ap|apply av|apply aw|apply bq|refine z17 ?_|refine z22 ?_ (hc:=by apply w2)|refine z22 ?_ (hc:=by apply w3)|refine z1 ?_|refine z3 ?_|(refine z23 ?_ ?_ <;> intro hg)|((fail_if_success (apply dt_known;exact rfl));apply c8;exact rfl;exact rfl;exact rfl;all_goals intro hg))
         all_goals try (exfalso;omega)
         all_goals exact⟨.inl rfl,_,rfl,rfl,rfl⟩
       ·rw [if_neg (by unfold kind1;rw [decide_eq_false hk];simp)] at g3
        repeat' (first|refine z0 ?_|apply ag|refine z5 ?_|refine z14 ?_|refine z10 ?_|apply ae|refine z16 ?_|refine z20 ?_|apply ah|apply ai|apply aq|refine z19 ?_|apply aa|apply ap|apply aw|refine z17 ?_|refine z1 ?_|refine z3 ?_|(refine z23 ?_ ?_ <;> intro hg)|((fail_if_success (apply dt_known;exact rfl));apply c8;exact rfl;exact rfl;exact rfl;all_goals intro hg))
        all_goals try (exfalso;omega)
        all_goals exact⟨i + 1,⟨hi,g3⟩,aj id ⟨rfl,rfl,rfl,rfl,rfl,trivial⟩ ⟨rfl,rfl,rfl,trivial⟩ rfl rfl rfl rfl rfl rfl,by omega⟩
      ·rw [List.drop_of_length_le (by omega)] at g3
       have w2:=sameInts_fn (aW r x.vars) x.fact.args
       rw [sameI_eq] at w2
       rw [g3,show (([]:List Ltl).filter kind1).all (fun z=>hasS ahead (yesF x.vars z))=true from rfl,Bool.true_and]
       repeat' (first|refine z0 ?_|apply ag|refine z5 ?_|refine z14 ?_|refine z10 ?_|apply ae|refine z16 ?_|refine z20 ?_|apply ah|apply ai|apply aq|apply ak|refine z19 ?_|apply aa|apply ap|apply aw|refine z17 ?_|refine z21 ?_ (hc:=by apply w2)|refine z1 ?_|refine z3 ?_|(refine z23 ?_ ?_ <;> intro hg)|((fail_if_success (apply dt_known;exact rfl));apply c8;exact rfl;exact rfl;exact rfl;all_goals intro hg))
       all_goals try (exfalso;omega)
       exact⟨.inl rfl,_,rfl,rfl,rfl⟩
     ·rw [if_neg hf]
      obtain⟨q1,q2⟩:=hM.ok.rul.folded hf
      have w2:=waysOf_fn m r s2 (by rw [setF_self s1];exact hM.s)
      rw [setF_self s1,hM.many] at w2
      have w3:=headsOf_fn p.arity r (rawW m r) hM.ok
      rw [show b9 (headsD r (rawW m r))=hdW m r from rfl] at w3
      have w4:=hasFact_fn (hdW m r) x.fact
      obtain⟨last,hlast⟩:∃ last,last=r.terms.length - 1:=⟨_,rfl⟩
      rw [← hlast]
      have w5:=sameInts_fn ((aW r x.vars).take last) (x.fact.args.take last)
      rw [sameI_eq] at w5
      have hl1:((r.terms.map bm).length:Int) - 1=(last:Int):=by omega
      have la:((aW r x.vars).map bf).length=(aW r x.vars).length:=List.length_map _
      have la2:=aW_len r x.vars
      repeat' ((fail_if_success (apply cv 22));(first|refine z0 ?_|apply ag|apply ae|refine z16 ?_|apply ah|apply ai|apply aa|refine z21 ?_ (hc:=by apply w2)|(refine z23 ?_ ?_ <;> intro hg)|fail))
      all_goals try (exfalso;omega)
      refine bl (aj (k':=3) (L':=[(9,.loc 1 0),(11,.loc 2 0),(14,.d (.slice 1 ((aW r x.vars).map bf))),(15,.d (.slice 1 ((rawW m r).map encW))),(17,.d (.int .i64 last))]) (H':=stH p r x) id ⟨rfl,rfl,rfl,rfl,by rw [← hl1];rfl,trivial⟩ ⟨rfl,rfl,rfl,trivial⟩ rfl rfl rfl rfl rfl rfl) ?_
      by_cases hsm:(aW r x.vars).take last=x.fact.args.take last
      ·rw [decide_eq_true hsm] at w5
       rw [decide_eq_true hsm,Bool.true_and]
       repeat' (first|refine z5 ?_|refine z10 ?_|apply ae|refine z20 ?_|apply ak|apply aa|apply av|refine z22 ?_ (hc:=by apply w3)|refine z22 ?_ (hc:=by apply w4)|refine z22 ?_ (hc:=by apply w5)|fail)
       all_goals try (exfalso;omega)
       all_goals exact⟨.inl rfl,_,rfl,rfl,rfl⟩
      ·rw [decide_eq_false hsm] at w5
       rw [decide_eq_false hsm,Bool.false_and]
       repeat' (first|refine z5 ?_|refine z14 ?_|refine z10 ?_|apply ae|refine z20 ?_|apply ak|apply aa|apply av|refine z22 ?_ (hc:=by apply w5)|fail)
       all_goals try (exfalso;omega)
       all_goals exact⟨.inl rfl,_,rfl,rfl,rfl⟩
  ·have hst:stepB p l m ahead x=false:=by unfold stepB;rw [if_neg h1,dif_neg hr]
   rw [hst]
   rw [show inR x.rule 0 (((p.rules.map co).length:Int) - 1)=false by
    unfold inR
    rw [Bool.and_eq_false_iff,decide_eq_false_iff_not,decide_eq_false_iff_not]
    by_cases h0:0≤x.rule
    ·right;intro h2;exact hr ⟨h0,by omega⟩
    ·left;exact h0] at w1
   repeat' (first|refine z0 ?_|apply ag|apply ae|refine z16 ?_|apply ai|apply ak|refine z18 ?_|apply aa|apply av|refine z21 ?_ (hc:=by apply w1)|refine z1 ?_|(refine z23 ?_ ?_ <;> intro hg)|fail)
   all_goals try (exfalso;omega)
   exact⟨.inl rfl,_,rfl,rfl,rfl⟩
def twiceB (xs:List Stp):Nat→Bool
 | 0=>false
 | n + 1=>twiceB xs n || (match xs[n]? with
  | some x=>hasS (xs.take n) x.fact
  | none=>false)
theorem twiceB_succ {xs:List Stp} {i:Nat} (hi:i < xs.length):twiceB xs (i + 1)=(twiceB xs i || hasS (xs.take i) xs[i].fact):=by
 rw [twiceB,List.getElem?_eq_getElem hi]
theorem twiceB_le {xs:List Stp} {i:Nat} (h:twiceB xs i=true):∀ n,i≤n→twiceB xs n=true
 | 0,hn=>by
  have:i=0:=by omega
  subst this;exact h
 | n + 1,hn=>by
  by_cases he:i=n + 1
  ·subst he;exact h
  ·rw [twiceB,twiceB_le h n (by omega),Bool.true_or]
set_option maxHeartbeats 8000000 in
theorem isProof_fn (p:Prg) (l m:List Fct) (xs:List Stp) (hx:ModelR p l 0 m) :
  Fn 39 [elPrg p,.d (.slice 2 (l.map ay)),.d (.slice 2 (m.map ay)),.d (.slice 4 (xs.map bt))] (fun res=>res = .d (.bool (proofB p l m xs))):=by
 refine au _ Tryz.func39 rfl rfl (by kernel_rfl) ?_
 intro O w0 E0 β0
 have lx:(xs.map bt).length=xs.length:=List.length_map _
 refine da (t:=3) rfl fun hb=>?_
 repeat' (first|refine z0 ?_|apply ag|apply ae|refine z16 ?_|apply ah|apply aa|refine z1 ?_|fail)
 refine bh (ι:=Nat) (fun i=>⟨1,[(1,.d (.slice 2 (l.map ay))),(2,.d (.slice 2 (m.map ay))),(3,.d (.slice 4 (xs.map bt))),(4,.loc 0 0),(8,.d (.bool false)),(9,.d (.int .i64 i))],[(0,.blk 26 [.d (.slice 1 (p.arity.map bf)),.d (.slice 1 (p.names.map encT)),.d (.slice 5 (p.rules.map co))])]⟩)
  (fun i=>i≤xs.length∧stepsB p l m xs i=true) (fun i=>xs.length - i) 0 ⟨Nat.zero_le _,rfl⟩ (aj id ⟨rfl,rfl,rfl,rfl,rfl,rfl,trivial⟩ ⟨rfl,trivial⟩ rfl rfl rfl rfl rfl rfl) ?_
 rintro i ⟨g1,g2⟩
 dsimp only at g1 g2 ⊢
 by_cases hi:i < xs.length
 ·have w3:=isStep_fn p l m (xs.take i) xs[i] hx
  have hs:=stepsB_succ p l m xs hi
  rw [g2,Bool.true_and] at hs
  have hpf:proofB p l m xs=stepsB p l m xs xs.length:=by unfold proofB;rw [decide_eq_true (by omega),Bool.true_and]
  cases hbb:stepB p l m (xs.take i) xs[i] with
  | true =>
   rw [hbb] at w3 hs
   repeat' (first|refine z0 ?_|apply ag|refine z5 ?_|refine z10 ?_|apply ae|refine z16 ?_|refine z20 ?_|apply ah|apply ai|apply aq|apply ak|refine z19 ?_|apply aa|apply ap|apply aw|refine z17 ?_|refine z22 ?_ (hc:=by apply w3)|(refine z23 ?_ ?_ <;> intro hg)|fail)
   all_goals try (exfalso;omega)
   exact⟨i + 1,⟨hi,hs⟩,aj id ⟨rfl,rfl,rfl,rfl,rfl,rfl,trivial⟩ ⟨rfl,trivial⟩ rfl rfl rfl rfl rfl rfl,by omega⟩
  | false =>
   rw [hbb] at w3
   rw [hpf,stepsB_false p l m xs hi hbb]
   repeat' (first|refine z0 ?_|apply ag|refine z5 ?_|refine z10 ?_|apply ae|refine z16 ?_|refine z20 ?_|apply ah|apply ai|apply aq|apply ak|refine z18 ?_|apply aa|apply ap|apply av|apply bq|refine z17 ?_|refine z22 ?_ (hc:=by apply w3)|(refine z23 ?_ ?_ <;> intro hg)|fail)
   all_goals try (exfalso;omega)
   exact⟨.inl rfl,_,rfl,rfl,rfl⟩
 ·have hin:i=xs.length:=by omega
  rw [hin] at g2
  have hpf:proofB p l m xs=decide (((xs.map bt).length:Int) > 0):=by
   unfold proofB
   rw [g2,Bool.and_true,lx]
   exact decide_eq_decide.2 (by omega)
  rw [hpf]
  repeat' (first|refine z0 ?_|apply ag|refine z5 ?_|apply ae|refine z16 ?_|refine z20 ?_|apply ah|apply ai|apply aq|apply ak|apply aa|apply ap|refine z17 ?_|(refine z23 ?_ ?_ <;> intro hg)|fail)
  all_goals try (exfalso;omega)
  exact⟨.inl rfl,_,rfl,rfl,rfl⟩
set_option maxHeartbeats 8000000 in
theorem isTwice_fn (xs:List Stp):Fn 43 [.d (.slice 4 (xs.map bt))] (fun res=>res = .d (.bool (twiceB xs xs.length))):=by
 refine au _ Tryz.func43 rfl rfl (by kernel_rfl) ?_
 intro O w0 E0 β0
 have lx:(xs.map bt).length=xs.length:=List.length_map _
 refine da (t:=0) rfl fun hb=>?_
 repeat' (first|refine z0 ?_|apply ag|apply ae|refine z16 ?_|apply ah|apply aa)
 refine bh (ι:=Nat) (fun i=>⟨0,[(0,.d (.slice 4 (xs.map bt))),(2,.d (.bool false)),(3,.d (.int .i64 i))],[]⟩)
  (fun i=>i≤xs.length∧twiceB xs i=false) (fun i=>xs.length - i) 0 ⟨Nat.zero_le _,rfl⟩ (aj id ⟨rfl,rfl,rfl,trivial⟩ trivial rfl rfl rfl rfl rfl rfl) ?_
 rintro i ⟨g1,g2⟩
 dsimp only at g1 g2 ⊢
 by_cases hi:i < xs.length
 ·have w3:=hasStep_fn (xs.take i) xs[i].fact
  have hs:=twiceB_succ hi
  rw [g2,Bool.false_or] at hs
  cases hbb:hasS (xs.take i) xs[i].fact with
  | true =>
   rw [hbb] at w3 hs
   rw [twiceB_le hs xs.length (by omega)]
   repeat' (first|refine z0 ?_|apply ag|refine z5 ?_|refine z10 ?_|apply ae|refine z16 ?_|refine z20 ?_|apply ah|apply ai|apply aq|apply ak|refine z18 ?_|apply aa|apply ap|apply av|apply bq|refine z17 ?_|refine z22 ?_ (hc:=by apply w3)|(refine z23 ?_ ?_ <;> intro hg)|fail)
   all_goals try (exfalso;omega)
   exact⟨.inl rfl,_,rfl,rfl,rfl⟩
  | false =>
   rw [hbb] at w3 hs
   repeat' (first|refine z0 ?_|apply ag|refine z5 ?_|refine z10 ?_|apply ae|refine z16 ?_|refine z20 ?_|apply ah|apply ai|apply aq|apply ak|refine z19 ?_|apply aa|apply ap|apply aw|refine z17 ?_|refine z22 ?_ (hc:=by apply w3)|(refine z23 ?_ ?_ <;> intro hg)|fail)
   all_goals try (exfalso;omega)
   exact⟨i + 1,⟨hi,hs⟩,aj id ⟨rfl,rfl,rfl,trivial⟩ trivial rfl rfl rfl rfl rfl rfl,by omega⟩
 ·have hin:i=xs.length:=by omega
  rw [hin] at g2
  rw [g2]
  repeat' (first|refine z0 ?_|apply ag|refine z5 ?_|apply ae|refine z16 ?_|refine z20 ?_|apply ah|apply ai|apply aq|apply ak|apply aa|apply ap|refine z17 ?_|(refine z23 ?_ ?_ <;> intro hg)|fail)
  all_goals try (exfalso;omega)
  exact⟨.inl rfl,_,rfl,rfl,rfl⟩
def aheadL (p:Prg) (h:Stp):List Fct:=match p.rules[h.rule.toNat]? with
 | some r=>if r.fold=0 then (r.body.filter kind1).map (yesF h.vars) else []
 | none=>[]
def proveG (p:Prg) (how:List Stp):Nat→List Stp→Fct→List Stp
 | 0,out,_=>out
 | n + 1,out,f=>if hasS out f then out else match how.find? (isSB f) with
  | some h=>(aheadL p h).foldl (proveG p how n) out++[⟨f,h.rule,h.vars⟩]
  | none=>out++[⟨f,-1,[]⟩]
set_option maxHeartbeats 8000000 in
theorem prove1_fn (f:Fct) (s:Stp):Fn 119 ([elStp s]++[.pd (ay f)]) (fun r=>r = .d (.bool (isSB f s))):=by
 refine au _ Tryz.func119 rfl rfl (by kernel_rfl) ?_
 intro O w0 E0 β0
 have w1:=orderF_fn s.fact f
 repeat' (first|refine z0 ?_|apply ag|apply ae|refine z16 ?_|apply ak|apply aa|refine z21 ?_ (hc:=by apply w1)|refine z1 ?_|fail)
 exact db rfl rfl
set_option maxHeartbeats 8000000 in
theorem indexHow_fn {f:FuncId} {caps:List SV} (p:Stp→Bool) (l:List (Stp)) (hcap:SV.lowL 0 caps=true) (hp:∀ x∈l,Fn f (elStp x::caps) (fun r=>r = .d (.bool (p x)))):Fn 118 [.d (.slice 4 (l.map bt)),.fn f caps] (fun r=>r = .d (.int .i64 (idxF p l))):=by
 refine au _ Tryz.func118 rfl rfl (by kernel_rfl) ?_
 intro O w0 E0 β0
 refine da (t:=0) rfl fun hb=>?_
 repeat' (first|refine z0 ?_|apply ag|apply ae|refine z16 ?_|apply ah|apply aa)
 refine bh (ι:=Nat) (fun i=>⟨0,[(0,.d (.slice 4 (l.map bt))),(1,.fn f caps),(7,.d (.int .i64 l.length)),(8,.d (.int .i64 i))],[]⟩)
  (fun i=>i≤l.length∧∀ j (hj:j < l.length),j < i→p l[j]=false) (fun i=>l.length - i) 0 ⟨Nat.zero_le _,fun j _ h=>absurd h (Nat.not_lt_zero j)⟩
  (aj id ⟨rfl,congrArg (SV.fn f) (SV.renL_id caps).symm,by simp;rfl,rfl,trivial⟩ trivial (by simp [Sl.low,SV.low,hcap]) rfl rfl rfl rfl rfl) ?_
 rintro i ⟨h1,h2⟩
 repeat' (first|refine z0 ?_|apply ag|apply ae|refine z16 ?_|apply aa)
 refine cw rfl (fun h=>?_) (fun h=>?_)
 ·have hi:i < l.length:=by omega
  have hpx:=hp l[i] (List.getElem_mem hi)
  repeat' (first|refine z0 ?_|apply ag|apply ae|refine z16 ?_|apply ah|apply ai|apply aa|(apply ds_callV;exact rfl;exact rfl;exact rfl;exact rfl;apply hpx;exact rfl;(assumption);exact rfl;rintro _ rfl))
  refine bu rfl (fun hb=>?_) (fun hb=>?_)
  ·repeat' (first|refine z0 ?_|apply ag|apply ae|refine z16 ?_|apply ak|apply aa|apply av|apply bq)
   exact cb rfl (idxF_hit h2 hi hb).symm
  ·repeat' (first|refine z0 ?_|apply ag|refine z16 ?_|apply ai|apply aa|apply aw)
   exact⟨i + 1,⟨hi,none_step h2 hi hb⟩,aj id ⟨rfl,congrArg (SV.fn f) (SV.renL_id caps).symm,rfl,rfl,trivial⟩ trivial (by simp [Sl.low,SV.low,hcap]) rfl rfl rfl rfl rfl,by omega⟩
 ·repeat' (first|refine z0 ?_|apply ag|apply ae|refine z16 ?_|apply aq|apply ak|apply aa|apply ap|refine z17 ?_|fail)
  exact cb rfl (idxF_none fun j hj=>h2 j hj (by omega)).symm
abbrev prvH (p:Prg) (how out:List Stp):Hp :=
 [(0,.blk 121 [.d (.slice 1 (p.arity.map bf)),.d (.slice 1 (p.names.map encT)),.d (.slice 5 (p.rules.map co)),.d (.slice 4 (how.map bt)),.row 1]),(1,.row 81 4 (out.map bt))]
set_option maxHeartbeats 8000000 in
theorem proveMet_fn (p:Prg) (how out:List Stp) (f:Fct) (n:Nat) (hl:out.length≤1000) (hmet:hasS out f=true) :
  FnOk false Tryz.prog tab b8 77 [.loc 0 0,elFct f] 1 2 (prvH p how out) (fun k2 r H2=>k2=2∧r = .tup []∧H2=prvH p how (proveG p how (n + 1) out f)):=by
 have hg:proveG p how (n + 1) out f=out:=by rw [proveG,if_pos hmet]
 rw [hg]
 refine cr _ Tryz.func77 rfl rfl (by kernel_rfl) ?_
 intro O w0 E0 β0
 have w1:=metR_fn out f (by omega)
 rw [hmet] at w1
 repeat' (first|apply ag|refine z5 ?_|apply ae|refine z16 ?_|refine z20 ?_|apply aa|refine z1 ?_|fail)
 refine dt_callR (fun j=>match j with|0=>1|j=>j) w1 (by rintro _ rfl;exact⟨rfl,rfl⟩) ⟨_,rfl⟩ rfl rfl rfl rfl ⟨rfl,trivial⟩ rfl rfl rfl rfl rfl rfl rfl rfl rfl ?_
 rintro _ rfl
 repeat' (first|refine z10 ?_|apply ak|refine z18 ?_|apply aa|apply av)
 exact⟨.inl rfl,_,rfl,id,2,_,prvH p how out,rfl,⟨rfl,rfl,trivial⟩,rfl,rfl,rfl,rfl,rfl,rfl,rfl,rfl,rfl⟩
set_option maxHeartbeats 8000000 in
theorem proveLeaf_fn (p:Prg) (how out:List Stp) (f:Fct) (n:Nat) (hl:out.length≤1000) (hf:f.args.length≤17592186044416) (hmet:hasS out f=false) (hno:how.find? (isSB f)=none) :
  FnOk false Tryz.prog tab b8 77 [.loc 0 0,elFct f] 1 2 (prvH p how out) (fun k2 r H2=>k2=2∧r = .tup []∧H2=prvH p how (proveG p how (n + 1) out f)):=by
 have hg:proveG p how (n + 1) out f=out++[⟨f,-1,[]⟩]:=by rw [proveG,if_neg (by simp [hmet]),hno]
 rw [hg]
 refine cr _ Tryz.func77 rfl rfl (by kernel_rfl) ?_
 intro O w0 E0 β0
 have w1:=metR_fn out f (by omega)
 rw [hmet] at w1
 have w2:=own_fn f hf
 have lo:(out.map bt).length=out.length:=List.length_map _
 have w3:=indexHow_fn (caps:=[.pd (ay f)]) (isSB f) how rfl (fun s _=>prove1_fn f s)
 rw [show idxF (isSB f) how = -1 from idxF_none fun j hj=>by
  have:=List.find?_eq_none.1 hno _ (List.getElem_mem hj)
  simpa using this] at w3
 repeat' (first|apply ag|refine z5 ?_|apply ae|refine z16 ?_|refine z20 ?_|apply aa|refine z1 ?_|fail)
 refine dt_callR (fun j=>match j with|0=>1|j=>j) w1 (by rintro _ rfl;exact⟨rfl,rfl⟩) ⟨_,rfl⟩ rfl rfl rfl rfl ⟨rfl,trivial⟩ rfl rfl rfl rfl rfl rfl rfl rfl rfl ?_
 rintro _ rfl
 repeat' ((fail_if_success (apply cv 3));(first|refine z0 ?_|apply ag|refine z10 ?_|apply ae|refine z16 ?_|apply ai|refine z19 ?_|apply aa|refine z21 ?_ (hc:=by apply w2)|refine z1 ?_|refine z3 ?_|fail))
 refine bl (ent_freezeL (ds:=ay f) 3 3 rfl rfl) ?_
 repeat' ((fail_if_success (apply dw_stopR 12));(first|refine z0 ?_|apply ag|refine z5 ?_|refine z6 ?_|refine z9 ?_|refine z11 ?_|apply ae|refine z16 ?_|refine z20 ?_|apply ai|refine z19 ?_|apply aa|refine z21 ?_ (hc:=by apply w3)|fail))
 exact⟨.inr rfl,_,rfl,fun j=>match j with|1=>12|j=>j,2,_,prvH p how (out++[⟨f,-1,[]⟩]),rfl,⟨rfl,by dsimp only;rw [List.map_append];rfl,trivial⟩,rfl,rfl,rfl,rfl,rfl,rfl,rfl,rfl,rfl⟩
abbrev prvQ (p:Prg) (how out:List Stp) (q:Nat):Hp :=
 [(0,.blk 121 [.d (.slice 1 (p.arity.map bf)),.d (.slice 1 (p.names.map encT)),.d (.slice 5 (p.rules.map co)),.d (.slice 4 (how.map bt)),.row q]),(q,.row 81 4 (out.map bt))]
abbrev stpH (p:Prg) (how:List Stp) (h:Stp) (f:Fct) (r:Rul) (out:List Stp) (q:Nat):Hp:=(3,.blk 36 [.d (.int .i64 r.pred),.d (.slice 2 (r.terms.map bm)),.d (.int .i64 r.fold),.d (.slice 4 (r.body.map bp)),.d (.int .i64 r.vars)])::(5,.blk 166 [.d (.int .i64 h.fact.pred),.d (.slice 1 (h.fact.args.map bf)),.d (.int .i64 h.rule),.d (.slice 1 (h.vars.map bf))])::(4,.blk 81 [.d (.int .i64 f.pred),.d (.slice 1 (f.args.map bf)),.d (.int .i64 h.rule),.d (.slice 1 (h.vars.map bf))])::(2,.blk 119 [.loc 0 0])::prvQ p how out q
set_option maxHeartbeats 8000000 in
theorem proveStep_fn (p:Prg) (how out:List Stp) (f:Fct) (h:Stp) (r:Rul) (n:Nat) (hl:out.length≤1000) (hf:f.args.length≤17592186044416) (hmet:hasS out f=false) (hfind:how.find? (isSB f)=some h) (h0:0≤h.rule) (h1:h.rule.toNat < p.rules.length) (hr:p.rules[h.rule.toNat]=r) (hv:h.vars.length≤1000) (hok:∀ x∈r.body,x.kind=1→(∀ t∈x.terms,okT h.vars.length t)∧x.terms.length≤1000000)
  (Inv:List Stp→Prop) (hI0:Inv out) (hIl:∀ o,Inv o→o.length≤1000) (IH:∀ o g,Inv o→g∈aheadL p h→Inv (proveG p how n o g)∧FnOk false Tryz.prog tab b8 77 [.loc 0 0,elFct g] 1 2 (prvH p how o) (fun k2 r H2=>k2=2∧r = .tup []∧H2=prvH p how (proveG p how n o g))) :
  FnOk false Tryz.prog tab b8 77 [.loc 0 0,elFct f] 1 2 (prvH p how out) (fun k2 r H2=>k2=2∧r = .tup []∧H2=prvH p how (proveG p how (n + 1) out f)):=by
 have hg:proveG p how (n + 1) out f=(aheadL p h).foldl (proveG p how n) out++[⟨f,h.rule,h.vars⟩]:=by rw [proveG,if_neg (by simp [hmet]),hfind]
 rw [hg]
 have hlt:how.findIdx (isSB f) < how.length:=by
  have hx:=List.find?_some hfind
  exact List.findIdx_lt_length_of_exists ⟨h,List.mem_of_find?_eq_some hfind,hx⟩
 have hget:how[how.findIdx (isSB f)]=h:=by
  have h2:=List.find?_eq_some_iff_getElem.1 hfind
  obtain⟨hx,i,hi,he,hno⟩:=h2
  have:how.findIdx (isSB f)=i:=(List.findIdx_eq hi).2 ⟨by rw [he];exact hx,fun j hj=>by have:=hno j hj;simpa using this⟩
  simp only [this,he]
 have hidx:idxF (isSB f) how=(how.findIdx (isSB f):Int):=by
  unfold idxF
  rw [List.findIdx?_eq_some_iff_findIdx_eq.2 ⟨hlt,rfl⟩]
 refine cr _ Tryz.func77 rfl rfl (by kernel_rfl) ?_
 intro O w0 E0 β0
 have w1:=metR_fn out f (by omega)
 rw [hmet] at w1
 have w2:=own_fn f hf
 have lo:(out.map bt).length=out.length:=List.length_map _
 have lh:(how.map bt).length=how.length:=List.length_map _
 have lr:(p.rules.map co).length=p.rules.length:=List.length_map _
 have w3:=indexHow_fn (caps:=[.pd (ay f)]) (isSB f) how rfl (fun s _=>prove1_fn f s)
 rw [hidx] at w3
 generalize how.findIdx (isSB f)=ix at *
 have w4:=cloneI_fn h.vars (by omega)
 repeat' (first|apply ag|refine z5 ?_|apply ae|refine z16 ?_|refine z20 ?_|apply aa|refine z1 ?_|fail)
 refine dt_callR (fun j=>match j with|0=>1|j=>j) w1 (by rintro _ rfl;exact⟨rfl,rfl⟩) ⟨_,rfl⟩ rfl rfl rfl rfl ⟨rfl,trivial⟩ rfl rfl rfl rfl rfl rfl rfl rfl rfl ?_
 rintro _ rfl
 repeat' ((fail_if_success (apply cv 3));(first|refine z0 ?_|apply ag|refine z10 ?_|apply ae|refine z16 ?_|apply ai|refine z19 ?_|apply aa|refine z21 ?_ (hc:=by apply w2)|refine z1 ?_|refine z3 ?_|fail))
 refine bl (ent_freezeL (ds:=ay f) 3 3 rfl rfl) ?_
 repeat' ((fail_if_success (apply cv 6));(first|refine z0 ?_|apply ag|apply ae|refine z16 ?_|refine z18 ?_|apply aa|refine z21 ?_ (hc:=by apply w3)|refine z1 ?_|refine z3 ?_|fail))
 all_goals try (exfalso;omega)
 rw [hget]
 refine bl (aj (k':=6) (L':=[(2,.loc 2 0),(4,.loc 4 0),(6,.loc 5 0)]) (H':=(5,.blk 166 [.d (.int .i64 h.fact.pred),.d (.slice 1 (h.fact.args.map bf)),.d (.int .i64 h.rule),.d (.slice 1 (h.vars.map bf))])::(4,.blk 81 [.d (.int .i64 f.pred),.d (.slice 1 (f.args.map bf)),.d (.int .i64 (-1)),.nils])::(2,.blk 119 [.loc 0 0])::prvH p how out) id ⟨rfl,rfl,rfl,trivial⟩ ⟨rfl,rfl,rfl,rfl,rfl,trivial⟩ rfl rfl rfl rfl rfl rfl) ?_
 clear w1 w2 w3
 repeat' ((fail_if_success (apply cv 8));(first|refine z5 ?_|refine z6 ?_|refine z7 ?_|refine z10 ?_|refine z11 ?_|apply ae|refine z20 ?_|apply aa|refine z22 ?_ (hc:=by apply w4)|fail))
 all_goals try (exfalso;omega)
 have hah:aheadL p h=if r.fold=0 then (r.body.filter kind1).map (yesF h.vars) else []:=by unfold aheadL;rw [List.getElem?_eq_getElem h1,hr]
 rw [hr]
 refine bl (aj (k':=6) (L':=[(2,.loc 2 0),(4,.loc 4 0),(6,.loc 5 0),(7,.loc 3 0)]) (H':=stpH p how h f r out 1) (fun j=>match j with|3=>15|j=>j) ⟨rfl,rfl,rfl,rfl,trivial⟩ ⟨rfl,rfl,rfl,rfl,rfl,rfl,trivial⟩ rfl rfl rfl rfl rfl rfl) ?_
 by_cases hfo:r.fold=0
 ·rw [if_pos hfo] at hah
  have w5:=yes_fn r h.vars
  repeat' (first|refine z0 ?_|apply ag|refine z5 ?_|refine z6 ?_|refine z9 ?_|refine z11 ?_|apply ae|refine z16 ?_|refine z20 ?_|apply ah|apply ai|apply aa|refine z21 ?_ (hc:=by apply w5)|(refine z23 ?_ ?_ <;> intro hg)|fail)
  all_goals try (exfalso;omega)
  clear w4 w5
  obtain⟨gs,hgs⟩:∃ gs,gs=aheadL p h:=⟨_,rfl⟩
  rw [← hgs]
  rw [← hgs] at hah IH
  have hyl:(yesX r h.vars).length=gs.length:=by rw [hah];unfold yesX;simp
  refine dw_range (yesX r h.vars) rfl rfl (yes1_seq r h.vars hok) (yesX_each r h.vars) (by simp) [(2,.loc 2 0),(4,.loc 4 0)] ⟨rfl,rfl,trivial⟩ rfl
   (ι:=Bool × List Stp) (fun _ x=>match x.1 with|false=>(6,stpH p how h f r x.2 1)|true=>(7,stpH p how h f r x.2 6)) (fun j x=>Inv x.2∧x.2=(gs.take j).foldl (proveG p how n) out) (false,out) ⟨hI0,rfl⟩ rfl ?_ ?_
  ·rintro j hj ⟨b,o⟩ ⟨e1,e2⟩ O1 w1 E1 β1 l1
   dsimp only at e1 e2
   have hj':j < gs.length:=by omega
   have hxj:(yesX r h.vars)[j]=[elFct gs[j]]:=by simp [yesX,hah]
   rw [hxj]
   obtain⟨i1,i2⟩:=IH o gs[j] e1 (List.getElem_mem hj')
   have hst1:proveG p how n o gs[j]=(gs.take (j + 1)).foldl (proveG p how n) out:=by rw [List.take_succ_eq_append_getElem hj',List.foldl_append,← e2];rfl
   cases b with
   | false =>
    change DW _ _ _ _ ((56,elFct gs[j])::_) _
    dsimp only
    repeat' (first|apply ag|refine z16 ?_|refine z1 ?_|refine z3 ?_|fail)
    refine⟨rfl,fun O2 w2 E2 β2=>?_⟩
    repeat' (first|refine z0 ?_|refine z16 ?_|apply ah)
    (refine bx id (i2) rfl rfl rfl rfl ⟨rfl,rfl,trivial⟩ rfl rfl rfl rfl rfl rfl ?_ ?_)
    ·rintro k2 res H2 ⟨rfl,rfl,rfl⟩;exact⟨rfl,rfl⟩
    rintro k2 res H2 ⟨rfl,rfl,rfl⟩
    change DS _ _ _ _ _ _ _ _
    repeat' (first|apply ag|apply aw)
    exact⟨(true,_),⟨i1,hst1⟩,aj (fun j=>match j with|6=>8|j=>j) trivial ⟨rfl,rfl,rfl,rfl,rfl,rfl,trivial⟩ rfl rfl rfl rfl rfl rfl⟩
   | true =>
    change DW _ _ _ _ ((56,elFct gs[j])::_) _
    dsimp only
    repeat' (first|apply ag|refine z16 ?_|refine z1 ?_|refine z3 ?_|fail)
    refine⟨rfl,fun O2 w2 E2 β2=>?_⟩
    repeat' (first|refine z0 ?_|refine z16 ?_|apply ah)
    refine bx (fun j=>match j with|1=>6|j=>j) i2 rfl rfl rfl rfl ⟨rfl,rfl,trivial⟩ rfl rfl rfl rfl rfl rfl ?_ ?_
    ·rintro k2 res H2 ⟨rfl,rfl,rfl⟩;exact⟨rfl,rfl⟩
    rintro k2 res H2 ⟨rfl,rfl,rfl⟩
    change DS _ _ _ _ _ _ _ _
    repeat' (first|apply ag|apply aw)
    exact⟨(true,_),⟨i1,hst1⟩,aj (fun j=>match j with|6=>9|j=>j) trivial ⟨rfl,rfl,rfl,rfl,rfl,rfl,trivial⟩ rfl rfl rfl rfl rfl rfl⟩
  ·rintro⟨b,o⟩ ⟨e1,e2⟩
   dsimp only at e1 e2
   rw [hyl,List.take_of_length_le (Nat.le_refl _)] at e2
   rw [← e2]
   have lo2:(o.map bt).length=o.length:=List.length_map _
   have hol:=hIl o e1
   cases b with
   | false =>
    dsimp only
    repeat' (first|refine z5 ?_|refine z6 ?_|refine z9 ?_|refine z11 ?_|refine z20 ?_|apply aa|apply aw)
    all_goals try (exfalso;omega)
    exact⟨.inr rfl,_,rfl,fun j=>match j with|1=>13|j=>j,2,_,prvH p how (o++[⟨f,h.rule,h.vars⟩]),rfl,⟨rfl,by dsimp only;rw [List.map_append];rfl,trivial⟩,rfl,rfl,rfl,rfl,rfl,rfl,rfl,rfl,rfl⟩
   | true =>
    dsimp only
    repeat' (first|refine z5 ?_|refine z6 ?_|refine z9 ?_|refine z11 ?_|refine z20 ?_|apply aa|apply aw)
    all_goals try (exfalso;omega)
    exact⟨.inr rfl,_,rfl,fun j=>match j with|1=>14|j=>j,2,_,prvH p how (o++[⟨f,h.rule,h.vars⟩]),rfl,⟨rfl,by dsimp only;rw [List.map_append];rfl,trivial⟩,rfl,rfl,rfl,rfl,rfl,rfl,rfl,rfl,rfl⟩
 ·rw [if_neg hfo] at hah
  rw [hah,List.foldl_nil]
  repeat' (first|refine z0 ?_|apply ag|refine z5 ?_|refine z6 ?_|refine z9 ?_|refine z11 ?_|apply ae|refine z16 ?_|refine z20 ?_|apply ai|apply aa|(refine z23 ?_ ?_ <;> intro hg)|fail)
  all_goals try (exfalso;omega)
  exact⟨.inr rfl,_,rfl,fun j=>match j with|1=>13|j=>j,2,_,prvH p how (out++[⟨f,h.rule,h.vars⟩]),rfl,⟨rfl,by dsimp only;rw [List.map_append];rfl,trivial⟩,rfl,rfl,rfl,rfl,rfl,rfl,rfl,rfl,rfl⟩
theorem isSB_iff {f:Fct} {s:Stp}:isSB f s=true↔s.fact=f:=by
 unfold isSB
 rw [decide_eq_true_iff]
 exact⟨fun h=>ordF_eq0 h,fun h=>by rw [h];exact ordF_self f⟩
theorem hasS_iff {l:List Stp} {f:Fct}:hasS l f=true↔∃ s∈l,s.fact=f:=by
 unfold hasS
 rw [List.any_eq_true]
 exact⟨fun⟨s,h1,h2⟩=>⟨s,h1,isSB_iff.1 h2⟩,fun⟨s,h1,h2⟩=>⟨s,h1,isSB_iff.2 h2⟩⟩
theorem hasS_no {l:List Stp} {f:Fct} (h:hasS l f=false):∀ s∈l,s.fact≠f:=fun s hs he=>by
 rw [hasS_iff.2 ⟨s,hs,he⟩] at h
 cases h
def rkF (how:List Stp) (f:Fct):Nat:=match how.findIdx? (isSB f) with
 | some i=>i + 1
 | none=>0
theorem rkF_take {how:List Stp} {g:Stp} {i:Nat} (h:g∈how.take i):rkF how g.fact≤i:=by
 obtain⟨j,hj,he⟩:=List.getElem_of_mem h
 have hj2:j < i∧j < how.length:=by rw [List.length_take] at hj;omega
 rw [List.getElem_take] at he
 unfold rkF
 cases hk:how.findIdx? (isSB g.fact) with
 | none=>exact Nat.zero_le _
 | some k =>
  obtain⟨h1,h2,h3⟩:=List.findIdx?_eq_some_iff_getElem.1 hk
  dsimp only
  apply Classical.byContradiction
  intro hc
  exact h3 j (by omega) (isSB_iff.2 (by rw [he]))
theorem rkF_new {how:List Stp} {f:Fct} (h:∀ g∈how,g.fact≠f):rkF how f=0:=by
 unfold rkF
 rw [List.findIdx?_eq_none_iff.2 fun x hx=>Bool.eq_false_iff.2 fun hc=>h x hx (isSB_iff.1 hc)]
theorem rkF_some {how:List Stp} {f:Fct} {h:Stp} (hf:how.find? (isSB f)=some h):∃ i,how[i]? = some h∧rkF how f=i + 1∧h.fact=f:=by
 obtain⟨h1,i,hi,he,hno⟩:=List.find?_eq_some_iff_getElem.1 hf
 refine⟨i,by rw [List.getElem?_eq_getElem hi,he],?_,isSB_iff.1 h1⟩
 unfold rkF
 rw [List.findIdx?_eq_some_iff_getElem.2 ⟨hi,by rw [he];exact h1,fun j hj hc=>by have:=hno j hj;rw [hc] at this;cases this⟩]
structure PInv (p:Prg) (l m:List Fct) (o:List Stp):Prop where
 nodup:(o.map (·.fact)).Nodup
 mem:∀ s∈o,s.fact∈m
 right:stepsB p l m o o.length=true
theorem stepsB_more {p:Prg} {l m:List Fct} {o:List Stp} {s:Stp} (h:stepsB p l m o o.length=true) (hs:stepB p l m o s=true):stepsB p l m (o++[s]) (o++[s]).length=true:=by
 have hlt:o.length < (o++[s]).length:=by rw [List.length_append];exact Nat.lt_succ_self _
 have hle:(o++[s]).length=o.length + 1:=by rw [List.length_append];rfl
 rw [hle,stepsB_succ p l m _ hlt,Bool.and_eq_true]
 refine⟨?_,?_⟩
 ·unfold stepsB at h ⊢
  rw [List.all_eq_true] at h ⊢
  intro i hi
  have hi2:=List.mem_range.1 hi
  have:=h i hi
  unfold stepAt at this ⊢
  rw [List.getElem?_append_left hi2,List.take_append_of_le_length (Nat.le_of_lt hi2)]
  exact this
 ·rw [List.take_left,List.getElem_append_right (Nat.le_refl _)]
  simpa using hs
theorem PInv.more {p:Prg} {l m:List Fct} {o:List Stp} {s:Stp} (h:PInv p l m o) (hm:s.fact∈m) (hn:∀ x∈o,x.fact≠s.fact) (hs:stepB p l m o s=true):PInv p l m (o++[s]):=by
 refine⟨?_,fun x hx=>?_,stepsB_more h.right hs⟩
 ·rw [List.map_append]
  refine List.nodup_append.2 ⟨h.nodup,by simp,fun x hx y hy he=>?_⟩
  rw [List.map_singleton,List.mem_singleton] at hy
  obtain⟨g,hg,rfl⟩:=List.mem_map.1 hx
  exact hn g hg (he.trans hy)
 ·rcases List.mem_append.1 hx with hx|hx
  ·exact h.mem x hx
  ·rw [List.mem_singleton] at hx
   rw [hx];exact hm
theorem PInv.len {p:Prg} {l m:List Fct} {o:List Stp} (h:PInv p l m o):o.length≤m.length:=by
 have h1:(o.map (·.fact)).length≤m.length:=h.nodup.length_le_of_subset fun x hx=>by
  obtain⟨g,hg,rfl⟩:=List.mem_map.1 hx
  exact h.mem g hg
 rwa [List.length_map] at h1
theorem ahead_ok {p:Prg} {lv:List Int} {n:Int} {l m:List Fct} {how:List Stp} (hk:HwOk l m how) (hm:HwM p lv n l how m) {h:Stp} {i:Nat} (hi:how[i]? = some h) {g:Fct} (hg:g∈aheadL p h):g∈m∧rkF how g < i + 1:=by
 have hs:=hm i h hi
 unfold aheadL at hg
 rw [List.getElem?_eq_getElem hs.hi] at hg
 dsimp only at hg
 split at hg
 ·rename_i h0
  obtain⟨z,hz,rfl⟩:=List.mem_map.1 hg
  obtain⟨hz1,hz2⟩:=List.mem_filter.1 hz
  rcases hs.ahead h0 z hz1 (of_decide_eq_true hz2) with h1|⟨g',h1,h2⟩
  ·refine⟨(hk.all _).2 (.inl h1),?_⟩
   rw [show yesF h.vars z=(⟨z.pred,z.terms.map (vA h.vars)⟩:Fct) from rfl,rkF_new fun x hx he=>hk.new x hx (by rw [he];exact h1)]
   omega
  ·have h3:=rkF_take h1
   rw [h2] at h3
   exact⟨(hk.all _).2 (.inr ⟨g',List.mem_of_mem_take h1,h2⟩),Nat.lt_succ_of_le h3⟩
 ·cases hg
theorem step_right {p:Prg} {lv:List Int} {n:Int} {l m:List Fct} {how:List Stp} (hx:ModelR p l 0 m) (hm:HwM p lv n l how m) {h:Stp} {i:Nat} (hi:how[i]? = some h) {o:List Stp} (ho:∀ g∈aheadL p h,hasS o g=true):stepB p l m o ⟨h.fact,h.rule,h.vars⟩=true:=by
 have hs:=hm i h hi
 have hM:=hx.rule (List.getElem_mem hs.hi)
 have hah:aheadL p h=if (p.rules[h.rule.toNat]'hs.hi).fold=0 then ((p.rules[h.rule.toNat]'hs.hi).body.filter kind1).map (yesF h.vars) else []:=by unfold aheadL;rw [List.getElem?_eq_getElem hs.hi]
 have hlo:=hs.lo
 unfold stepB
 rw [if_neg (by dsimp only;omega),dif_pos ⟨hs.lo,hs.hi⟩]
 dsimp only
 have hway:=hs.way
 have hhead:=hs.head
 have his:=hs.is
 generalize p.rules[h.rule.toNat]'hs.hi=r at hM hah hway hhead his ⊢
 unfold ruleStepB
 rw [List.any_eq_true.2 ⟨h.vars,hway,decide_eq_true rfl⟩,Bool.true_and]
 have hin:=((bw _).2 _).1 hhead
 unfold isW at his
 have his:=of_decide_eq_true his
 split
 ·rename_i h0
  rw [if_pos h0] at hah
  have hw:=head_way hin fun h1=>absurd h0 h1
  unfold kW at his
  rw [if_pos h0,List.take_of_length_le (by rw [aW_len];exact Nat.le_refl _),List.take_of_length_le (by rw [hw.1];exact Nat.le_refl _)] at his
  have heq:(⟨r.pred,aW r h.vars⟩:Fct)=h.fact:=by rw [his,← heads_pred hin]
  rw [Bool.and_eq_true]
  refine⟨?_,?_⟩
  ·dsimp only
   rw [heq]
   exact decide_eq_true (ordF_self _)
  ·rw [List.all_eq_true]
   intro z hz
   exact ho _ (by rw [hah];exact List.mem_map.2 ⟨z,hz,rfl⟩)
 ·rename_i h0
  unfold kW at his
  rw [if_neg h0] at his
  rw [Bool.and_eq_true]
  exact⟨hasF_iff.2 hhead,decide_eq_true his.symm⟩
theorem fold_inv {p:Prg} {l m:List Fct} {how:List Stp} {N K:Nat} (hKN:K≤N)
  (IH:∀ o f,rkF how f < N→f∈m→PInv p l m o→PInv p l m (proveG p how N o f)∧hasS (proveG p how N o f) f=true∧∃ t,proveG p how N o f=o++t∧∀ s∈t,s.fact=f∨rkF how s.fact < rkF how f) :
  ∀ (gs:List Fct) (o:List Stp),(∀ g∈gs,g∈m∧rkF how g < K)→PInv p l m o→PInv p l m (gs.foldl (proveG p how N) o)∧(∀ g∈gs,hasS (gs.foldl (proveG p how N) o) g=true)∧∃ t,gs.foldl (proveG p how N) o=o++t∧∀ s∈t,rkF how s.fact < K
 | [],o,_,h=>⟨h,fun _ hg=>by simp at hg,[],by simp,fun _ hs=>by simp at hs⟩
 | g::gs,o,hg,h=>by
  have g1:=hg g (List.mem_cons_self ..)
  obtain⟨a1,a2,t1,a3,a4⟩:=IH o g (Nat.lt_of_lt_of_le g1.2 hKN) g1.1 h
  obtain⟨b1,b2,t2,b3,b4⟩:=fold_inv hKN IH gs _ (fun x hx=>hg x (List.mem_cons_of_mem _ hx)) a1
  refine⟨b1,fun x hx=>?_,t1++t2,by rw [List.foldl_cons,b3,a3,List.append_assoc],fun s hs=>?_⟩
  ·rcases List.mem_cons.1 hx with rfl|hx
   ·obtain⟨s,hs,he⟩:=hasS_iff.1 a2
    rw [List.foldl_cons,b3]
    exact hasS_iff.2 ⟨s,List.mem_append_left _ hs,he⟩
   ·exact b2 x hx
  ·rcases List.mem_append.1 hs with hs|hs
   ·rcases a4 s hs with he|he
    ·rw [he];exact g1.2
    ·exact Nat.lt_trans he g1.2
   ·exact b4 s hs
theorem prove_inv {p:Prg} {lv:List Int} {n:Int} {l m:List Fct} {how:List Stp} (hx:ModelR p l 0 m) (hk:HwOk l m how) (hm:HwM p lv n l how m) :
  ∀ (N:Nat) (o:List Stp) (f:Fct),rkF how f < N→f∈m→PInv p l m o→PInv p l m (proveG p how N o f)∧hasS (proveG p how N o f) f=true∧∃ t,proveG p how N o f=o++t∧∀ s∈t,s.fact=f∨rkF how s.fact < rkF how f
 | 0,_,_,h,_,_=>absurd h (Nat.not_lt_zero _)
 | N + 1,o,f,h,hf,hI=>by
  cases hmet:hasS o f with
  | true =>
   have hg:proveG p how (N + 1) o f=o:=by rw [proveG,if_pos hmet]
   rw [hg]
   exact⟨hI,hmet,[],by simp,fun _ hs=>by simp at hs⟩
  | false =>
   have hno:=hasS_no hmet
   cases hfind:how.find? (isSB f) with
   | none =>
    have hg:proveG p how (N + 1) o f=o++[⟨f,-1,[]⟩]:=by rw [proveG,if_neg (by simp [hmet]),hfind]
    rw [hg]
    have hgiv:f∈l:=by
     rcases (hk.all f).1 hf with h1|⟨s,h1,h2⟩
     ·exact h1
     ·have:=List.find?_eq_none.1 hfind s h1
      exact absurd (isSB_iff.2 h2) this
    refine⟨hI.more hf hno ?_,hasS_iff.2 ⟨_,List.mem_append_right _ (List.mem_singleton.2 rfl),rfl⟩,_,rfl,fun s hs=>.inl ?_⟩
    ·unfold stepB
     rw [if_pos rfl,Bool.and_eq_true]
     exact⟨hasF_iff.2 hgiv,rfl⟩
    ·rw [List.mem_singleton.1 hs]
   | some s =>
    have hg:proveG p how (N + 1) o f=(aheadL p s).foldl (proveG p how N) o++[⟨f,s.rule,s.vars⟩]:=by rw [proveG,if_neg (by simp [hmet]),hfind]
    obtain⟨i,hi,hr,hsf⟩:=rkF_some hfind
    obtain⟨b1,b2,t,b3,b4⟩:=fold_inv (K:=i + 1) (by omega) (prove_inv hx hk hm N) (aheadL p s) o (fun g hg=>ahead_ok hk hm hi hg) hI
    rw [hg]
    have hst:=step_right hx hm hi b2
    rw [hsf] at hst
    refine⟨b1.more hf (fun x hx he=>?_) hst,hasS_iff.2 ⟨_,List.mem_append_right _ (List.mem_singleton.2 rfl),rfl⟩,t++[⟨f,s.rule,s.vars⟩],by rw [b3,List.append_assoc],fun x hx=>?_⟩
    ·rw [b3] at hx
     rcases List.mem_append.1 hx with hx|hx
     ·exact hno x hx he
     ·have:=b4 x hx
      rw [he] at this
      dsimp only at this
      omega
    ·rcases List.mem_append.1 hx with hx|hx
     ·right;rw [hr];exact b4 x hx
     ·left;rw [List.mem_singleton.1 hx]
theorem prove_last {p:Prg} {how:List Stp} {N:Nat} {o:List Stp} {f:Fct} (h:hasS o f=false):∃ t s,proveG p how (N + 1) o f=t++[s]∧s.fact=f:=by
 rw [proveG,if_neg (by simp [h])]
 split
 ·exact⟨_,_,rfl,rfl⟩
 ·exact⟨_,_,rfl,rfl⟩
theorem prove_fn {p:Prg} {lv:List Int} {n:Int} {l m:List Fct} {how:List Stp} (hx:ModelR p l 0 m) (hk:HwOk l m how) (hm:HwM p lv n l how m) :
  ∀ (N:Nat) (o:List Stp) (f:Fct),rkF how f < N→f∈m→PInv p l m o →
   FnOk false Tryz.prog tab b8 77 [.loc 0 0,elFct f] 1 2 (prvH p how o) (fun k2 r H2=>k2=2∧r = .tup []∧H2=prvH p how (proveG p how N o f))
 | 0,_,_,h,_,_=>absurd h (Nat.not_lt_zero _)
 | N + 1,o,f,h,hf,hI=>by
  obtain⟨s1,s2,s3⟩:=hx.strict
  have ho:=hI.len
  have hfl:=fct_len (mOk hx.ok0).pr (s3 f hf)
  cases hmet:hasS o f with
  | true=>exact proveMet_fn p how o f N (by omega) hmet
  | false =>
   cases hfind:how.find? (isSB f) with
   | none=>exact proveLeaf_fn p how o f N (by omega) (by omega) hmet hfind
   | some s =>
    obtain⟨i,hi,hr,hsf⟩:=rkF_some hfind
    have hs:=hm i s hi
    have hM:=hx.rule (List.getElem_mem hs.hi)
    have hvl:=hM.ok.len _ hs.way
    have hv8:=hM.ok.rul.vars
    refine proveStep_fn p how o f s _ N (by omega) (by omega) hmet hfind hs.lo hs.hi rfl (by omega) (fun x hx _=>?_) (PInv p l m) hI (fun o h=>by have:=h.len;omega) fun o g hI hg=>?_
    ·have h:=(hM.s.ok.lit x hx).terms
     rw [← hvl] at h
     exact⟨h,by have:=hM.s.ok.tlen x hx;omega⟩
    ·obtain⟨q1,q2⟩:=ahead_ok hk hm hi hg
     exact⟨(prove_inv hx hk hm N o g (by omega) q1 hI).1,prove_fn hx hk hm N o g (by omega) q1 hI⟩
def prvE (p:Prg) (f:Fct) (e:Int):Int:=if e=0 then factE p.arity f else e
def prvB (p:Prg) (m:List Fct) (f:Fct) (e:Int):Bool:=decide (prvE p f e=0) && hasF m f
structure PrvOk (p:Prg) (l m:List Fct) (f:Fct) (xs:List Stp):Prop where
 inv:PInv p l m xs
 last:∃ t s,xs=t++[s]∧s.fact=f
theorem rkF_le (how:List Stp) (f:Fct):rkF how f≤how.length:=by
 unfold rkF
 cases hk:how.findIdx? (isSB f) with
 | none=>exact Nat.zero_le _
 | some i=>exact (List.findIdx?_eq_some_iff_getElem.1 hk).1
set_option maxHeartbeats 8000000 in
theorem wprove_fn (p:Prg) (l:List Fct) (f:Fct) (e:Int) (m:List Fct) (hx:ModelR p l e m) :
  Fn 40 [elPrg p,.d (.slice 2 (l.map ay)),elFct f] (fun r=>∃ xs:List Stp,r = .tup [.d (.slice 4 (xs.map bt)),.d (.bool (prvB p m f e)),.d (.int .i64 (prvE p f e))]∧(prvB p m f e=true→PrvOk p l m f xs)∧(prvB p m f e=false→xs=[])):=by
 refine au _ Tryz.func40 rfl rfl (by kernel_rfl) ?_
 intro O w0 E0 β0
 have w1:=mall_fn p l
 repeat' (first|refine z0 ?_|apply ag|apply ae|refine z16 ?_|apply aa|refine z1 ?_|fail)
 apply ds_call;exact rfl;exact rfl;exact w1;exact rfl;exact rfl;exact rfl
 rintro _ ⟨m',how,e',rfl,q1,q2⟩
 obtain⟨he,hm⟩:=q1.unique hx
 subst he hm
 clear w1
 by_cases h0:e' = 0
 ·subst h0
  have hE:prvE p f 0=factE p.arity f:=if_pos rfl
  have hB:prvB p m' f 0=(decide (factE p.arity f=0) && hasF m' f):=by unfold prvB;rw [hE]
  rw [hE,hB]
  have w2:=fright_fn p f
  by_cases hf:factE p.arity f=0
  ·rw [hf,decide_eq_true rfl,Bool.true_and]
   rw [hf] at w2
   obtain⟨s1,s2,s3⟩:=hx.strict
   have w3:=in_fn m' f (by omega) s1
   cases hb:hasF m' f with
   | true =>
    rw [hb] at w3
    repeat' ((fail_if_success (apply cv 9));(first|refine z0 ?_|apply ag|apply ae|refine z16 ?_|apply ai|refine z18 ?_|refine z19 ?_|apply aa|refine z21 ?_ (hc:=by apply w2)|refine z21 ?_ (hc:=by apply w3)|refine z1 ?_|fail))
    all_goals try (exfalso;omega)
    obtain⟨q3,q4⟩:=q2 rfl
    have hmem:=hasF_iff.1 hb
    have hN:rkF how f < how.length + 1 + 1:=by have:=rkF_le how f;omega
    have hI:PInv p l m' []:=⟨by simp,by simp,rfl⟩
    have w4:=prove_fn hx q3 q4 (how.length + 1 + 1) [] f hN hmem hI
    obtain⟨r1,-,t,r2,-⟩:=prove_inv hx q3 q4 (how.length + 1 + 1) [] f hN hmem hI
    have r3:=prove_last (p:=p) (how:=how) (N:=how.length + 1) (o:=[]) (f:=f) rfl
    generalize proveG p how (how.length + 1 + 1) [] f=xs at *
    refine bl (aj (k':=2) (L':=[(12,.loc 0 0),(5,.loc 1 0)]) (H':=[(0,.blk 121 [.d (.slice 1 (p.arity.map bf)),.d (.slice 1 (p.names.map encT)),.d (.slice 5 (p.rules.map co)),.d (.slice 4 (how.map bt)),.nils]),(1,.blk 48 [.d (.int .i64 f.pred),.d (.slice 1 (f.args.map bf))])])
     (fun j=>match j with|0=>2|j=>j) ⟨rfl,rfl,trivial⟩ ⟨rfl,rfl,trivial⟩ rfl rfl rfl rfl rfl rfl) ?_
    refine bl (ent_cellrow 0 4 81 4 rfl rfl rfl) ?_
    repeat' (first|refine z0 ?_|apply ae|refine z16 ?_|fail)
    refine bx (fun j=>match j with|1=>2|j=>j) w4 rfl rfl rfl rfl ⟨rfl,rfl,trivial⟩ rfl rfl rfl rfl rfl rfl ?_ ?_
    ·rintro k2 res H2 ⟨rfl,rfl,rfl⟩;exact⟨rfl,rfl⟩
    rintro k2 res H2 ⟨rfl,rfl,rfl⟩
    change DS _ _ _ _ _ _ _ _
    repeat' ((fail_if_success (apply cv 10));(first|apply ag|apply aa))
    refine bl (ent_cellseal 0 4 4 rfl rfl rfl rfl rfl) ?_
    repeat' (first|refine z0 ?_|apply ag|apply ae|refine z16 ?_|apply ak|apply aa)
    exact⟨.inl rfl,_,rfl,rfl,xs,rfl,fun _=>⟨r1,r3⟩,fun h=>(by cases h)⟩
   | false =>
    rw [hb] at w3
    repeat' (first|refine z0 ?_|apply ag|apply ae|refine z16 ?_|apply ai|refine z18 ?_|refine z19 ?_|apply aa|refine z21 ?_ (hc:=by apply w2)|refine z21 ?_ (hc:=by apply w3)|fail)
    all_goals try (exfalso;omega)
    refine bl (dc 6 4 rfl) ?_
    repeat' (first|apply ak|apply av)
    exact⟨.inl rfl,_,rfl,rfl,[],rfl,fun h=>(by cases h),fun _=>rfl⟩
  ·rw [decide_eq_false hf,Bool.false_and]
   generalize factE p.arity f=ee at *
   repeat' (first|refine z0 ?_|apply ag|apply ae|refine z16 ?_|apply ai|refine z18 ?_|apply aa|refine z21 ?_ (hc:=by apply w2)|(refine z23 ?_ ?_ <;> intro hg)|fail)
   all_goals try (exfalso;omega)
   refine bl (dc 6 4 rfl) ?_
   repeat' (first|apply ak|apply av)
   exact⟨.inl rfl,_,rfl,rfl,[],rfl,fun h=>(by cases h),fun _=>rfl⟩
 ·have hE:prvE p f e' = e':=if_neg h0
  have hB:prvB p m' f e' = false:=by unfold prvB;rw [hE,decide_eq_false h0,Bool.false_and]
  rw [hE,hB]
  repeat' (first|refine z0 ?_|apply ag|apply ae|refine z16 ?_|apply ai|apply aa|(refine z23 ?_ ?_ <;> intro hg)|fail)
  all_goals try (exfalso;omega)
  refine bl (dc 6 4 rfl) ?_
  repeat' (first|apply ak|apply av)
  exact⟨.inl rfl,_,rfl,rfl,[],rfl,fun h=>(by cases h),fun _=>rfl⟩
theorem PInv.proof {p:Prg} {l m:List Fct} {xs:List Stp} (h:PInv p l m xs) (h0:0 < xs.length):proofB p l m xs=true:=by
 unfold proofB
 rw [decide_eq_true h0,Bool.true_and]
 exact h.right
theorem PInv.once {p:Prg} {l m:List Fct} {xs:List Stp} (h:PInv p l m xs):∀ n,n≤xs.length→twiceB xs n=false
 | 0,_=>rfl
 | n + 1,hn=>by
  have hlt:n < xs.length:=hn
  rw [twiceB_succ hlt,PInv.once h n (by omega),Bool.false_or]
  cases hb:hasS (xs.take n) xs[n].fact with
  | false=>rfl
  | true =>
   obtain⟨s,hs,he⟩:=hasS_iff.1 hb
   obtain⟨j,hj,hjs⟩:=List.getElem_of_mem hs
   have hj2:j < n:=by rw [List.length_take] at hj;omega
   rw [List.getElem_take] at hjs
   have hnd:=h.nodup
   have hne:=List.pairwise_iff_getElem.1 hnd j n (by rw [List.length_map];omega) (by rw [List.length_map];exact hlt) hj2
   rw [List.getElem_map,List.getElem_map,hjs] at hne
   exact absurd he hne
theorem last_is {xs t:List Stp} {s:Stp} (h:xs=t++[s]):∃ hl:(((xs.map bt).length:Int) - 1).toNat < xs.length,xs[(((xs.map bt).length:Int) - 1).toNat]'hl=s:=by
 have hn:(((xs.map bt).length:Int) - 1).toNat=t.length:=by rw [List.length_map,h,List.length_append];simp
 have hs:xs[(((xs.map bt).length:Int) - 1).toNat]? = some s:=by rw [hn,h];simp
 exact List.getElem?_eq_some_iff.1 hs
set_option maxHeartbeats 8000000 in
theorem whyBegun_fn:Fn 38 [] (fun r=>r = .d (.bool true)):=by
 refine au _ Tryz.func38 rfl rfl (by kernel_rfl) ?_
 intro O w0 E0 β0
 have h1:=lsmall_fn
 have h2:=lpairs_fn
 have h3:=rfact_fn 1 [1,3]
 have h3':=rfact_fn 1 [3,1]
 have h4:=wprove_fn smallP pairsF ⟨1,[1,3]⟩ 0 fullF small_model
 have h5:=wprove_fn smallP pairsF ⟨1,[3,1]⟩ 0 fullF small_model
 rw [show prvB smallP fullF ⟨1,[1,3]⟩ 0=true by kernel_rfl,show prvE smallP ⟨1,[1,3]⟩ 0=0 by kernel_rfl] at h4
 rw [show prvB smallP fullF ⟨1,[3,1]⟩ 0=false by kernel_rfl,show prvE smallP ⟨1,[3,1]⟩ 0=0 by kernel_rfl] at h5
 repeat' (first|refine z0 ?_|apply ag|apply ae|refine z16 ?_|apply aa|refine z21 ?_ (hc:=by apply h1)|refine z21 ?_ (hc:=by apply h2)|refine z21 ?_ (hc:=by apply h3)|refine z4 ?_|fail)
 apply ds_call;exact rfl;exact rfl;exact h4;exact rfl;exact rfl;exact rfl
 rintro _ ⟨xs,rfl,q1,-⟩
 obtain⟨q1,t,s,q2,q3⟩:=q1 rfl
 repeat' (first|refine z0 ?_|apply ag|apply ae|refine z16 ?_|apply aa|refine z21 ?_ (hc:=by apply h1)|refine z21 ?_ (hc:=by apply h2)|refine z21 ?_ (hc:=by apply h3')|refine z4 ?_|fail)
 apply ds_call;exact rfl;exact rfl;exact h5;exact rfl;exact rfl;exact rfl
 rintro _ ⟨ys,rfl,-,q4⟩
 obtain rfl:=q4 rfl
 have hpos:0 < xs.length:=by rw [q2];simp
 have h60:xs.length≤5:=q1.len
 have h6:=wcheck_fn smallP pairsF xs 0 fullF small_model
 rw [show whyE 0 xs=0 from if_neg (by omega),q1.proof hpos,show (decide ((0:Int)=0) && true)=true from rfl] at h6
 have lx:(xs.map bt).length=xs.length:=List.length_map _
 obtain⟨hl,hlast⟩:=last_is q2
 have h8:=sameFacts_fn [(xs[(((xs.map bt).length:Int) - 1).toNat]'hl).fact] [⟨1,[1,3]⟩]
 rw [show sameL Fct.same [(xs[(((xs.map bt).length:Int) - 1).toNat]'hl).fact] [⟨1,[1,3]⟩]=true by rw [hlast,q3];kernel_rfl] at h8
 repeat' (first|refine z0 ?_|apply ag|refine z5 ?_|refine z14 ?_|refine z10 ?_|apply ae|refine z16 ?_|refine z20 ?_|apply ak|apply aa|refine z21 ?_ (hc:=by apply h1)|refine z21 ?_ (hc:=by apply h2)|refine z22 ?_ (hc:=by apply h3)|refine z21 ?_ (hc:=by apply h6)|refine z22 ?_ (hc:=by apply h8)|((fail_if_success (apply dt_known;exact rfl));apply c8;exact rfl;exact rfl;exact rfl;all_goals intro hg))
 all_goals try (exfalso;omega)
 exact⟨.inl rfl,_,rfl,rfl,rfl⟩
set_option maxHeartbeats 8000000 in
theorem whyChecks_fn (p:Prg) (l:List Fct) (xs:List Stp) :
  Fn 9 [elPrg p,.d (.slice 2 (l.map ay)),.d (.slice 4 (xs.map bt))] (fun r=>r = .d (.bool true)):=by
 refine au _ Tryz.func9 rfl rfl (by kernel_rfl) ?_
 intro O w0 E0 β0
 obtain⟨e,m,hx⟩:=ModelR.total p l
 have h1:=wcheck_fn p l xs e m hx
 have h2:=fullModel_fn p l e m hx
 have h3:=whyBegun_fn
 have lx:(xs.map bt).length=xs.length:=List.length_map _
 refine da (t:=2) rfl fun hb=>?_
 by_cases he:e=0
 ·subst he
  have h4:=isProof_fn p l m xs hx
  by_cases hl:200 < xs.length
  ·have hw:whyE 0 xs=2:=if_pos ⟨rfl,hl⟩
   rw [hw] at h1
   rw [show (decide ((2:Int)=0) && proofB p l m xs)=false from rfl] at h1
   repeat' (first|refine z0 ?_|refine z12 ?_|apply ag|apply ae|refine z16 ?_|apply ai|apply ak|apply aa|refine z21 ?_ (hc:=by apply h1)|refine z21 ?_ (hc:=by apply h2)|refine z21 ?_ (hc:=by apply h3)|refine z1 ?_|(refine z23 ?_ ?_ <;> intro hg)|fail)
   all_goals try (exfalso;omega)
   all_goals exact⟨.inl rfl,_,rfl,rfl,rfl⟩
  ·have hw:whyE 0 xs=0:=if_neg (fun h=>hl h.2)
   rw [hw,decide_eq_true rfl,Bool.true_and] at h1
   cases hbp:proofB p l m xs with
   | true =>
    rw [hbp] at h1 h4
    repeat' (first|refine z0 ?_|refine z12 ?_|apply ag|apply ae|refine z16 ?_|apply ai|apply ak|apply aa|refine z21 ?_ (hc:=by apply h1)|refine z21 ?_ (hc:=by apply h2)|refine z21 ?_ (hc:=by apply h3)|refine z21 ?_ (hc:=by apply h4)|refine z1 ?_|(refine z23 ?_ ?_ <;> intro hg)|fail)
    all_goals try (exfalso;omega)
    all_goals exact⟨.inl rfl,_,rfl,rfl,rfl⟩
   | false =>
    rw [hbp] at h1 h4
    repeat' (first|refine z0 ?_|refine z12 ?_|apply ag|apply ae|refine z16 ?_|apply ai|apply ak|apply aa|refine z21 ?_ (hc:=by apply h1)|refine z21 ?_ (hc:=by apply h2)|refine z21 ?_ (hc:=by apply h3)|refine z21 ?_ (hc:=by apply h4)|refine z1 ?_|(refine z23 ?_ ?_ <;> intro hg)|fail)
    all_goals try (exfalso;omega)
    all_goals exact⟨.inl rfl,_,rfl,rfl,rfl⟩
 ·have hw:whyE e xs=e:=if_neg (fun h=>he h.1)
  rw [hw,decide_eq_false he,Bool.false_and] at h1
  repeat' (first|refine z0 ?_|refine z12 ?_|apply ag|apply ae|refine z16 ?_|apply ai|apply ak|refine z19 ?_|apply aa|refine z21 ?_ (hc:=by apply h1)|refine z21 ?_ (hc:=by apply h2)|refine z21 ?_ (hc:=by apply h3)|refine z1 ?_|(refine z23 ?_ ?_ <;> intro hg)|((fail_if_success (apply a8;exact rfl));apply a6;exact rfl;exact rfl;exact rfl;all_goals intro hg))
  all_goals try (exfalso;omega)
  all_goals exact⟨.inl rfl,_,rfl,rfl,rfl⟩
set_option maxHeartbeats 8000000 in
theorem whyProves_fn (p:Prg) (l:List Fct) (f:Fct) :
  Fn 10 [elPrg p,.d (.slice 2 (l.map ay)),elFct f] (fun r=>r = .d (.bool true)):=by
 refine au _ Tryz.func10 rfl rfl (by kernel_rfl) ?_
 intro O w0 E0 β0
 obtain⟨e,m,hx⟩:=ModelR.total p l
 have h1:=wprove_fn p l f e m hx
 have h2:=fullModel_fn p l e m hx
 have h3:=whyBegun_fn
 have h4:=checkFact_fn p f
 have h5:=hasFact_fn m f
 repeat' (first|refine z0 ?_|apply ag|apply ae|refine z16 ?_|apply aa|refine z1 ?_|fail)
 apply ds_call;exact rfl;exact rfl;exact h1;exact rfl;exact rfl;exact rfl
 rintro _ ⟨xs,rfl,q1,q2⟩
 clear h1
 by_cases he:e=0
 ·subst he
  have hE:prvE p f 0=factE p.arity f:=if_pos rfl
  have hB:prvB p m f 0=(decide (factE p.arity f=0) && hasF m f):=by unfold prvB;rw [hE]
  rw [hB] at q1 q2
  rw [hE,hB]
  by_cases hf:factE p.arity f=0
  ·rw [hf] at h4
   rw [hf,decide_eq_true rfl,Bool.true_and] at q1 q2
   rw [hf,decide_eq_true rfl,Bool.true_and]
   cases hb:hasF m f with
   | true =>
    rw [hb] at h5 q1
    obtain⟨q1,t,s,q4,q3⟩:=q1 rfl
    have lx:(xs.map bt).length=xs.length:=List.length_map _
    have hpos:0 < xs.length:=by rw [q4];simp
    obtain⟨-,s2,-⟩:=hx.strict
    have h60:=q1.len
    have h6:=isProof_fn p l m xs hx
    rw [q1.proof hpos] at h6
    have h7:=isTwice_fn xs
    rw [q1.once _ (Nat.le_refl _)] at h7
    obtain⟨hl,hlast⟩:=last_is q4
    have h8:=orderOf_fn (xs[(((xs.map bt).length:Int) - 1).toNat]'hl).fact f
    rw [show c9 (xs[(((xs.map bt).length:Int) - 1).toNat]'hl).fact f=0 by rw [hlast,q3,ordF_self]] at h8
    repeat' (first|refine z0 ?_|apply ag|refine z5 ?_|refine z14 ?_|refine z10 ?_|apply ae|refine z16 ?_|refine z20 ?_|apply ai|apply ak|refine z18 ?_|refine z19 ?_|apply aa|refine z21 ?_ (hc:=by apply h2)|refine z21 ?_ (hc:=by apply h3)|refine z21 ?_ (hc:=by apply h4)|refine z21 ?_ (hc:=by apply h5)|refine z22 ?_ (hc:=by apply h6)|refine z22 ?_ (hc:=by apply h7)|refine z22 ?_ (hc:=by apply h8)|((fail_if_success (apply dt_known;exact rfl));apply c8;exact rfl;exact rfl;exact rfl;all_goals intro hg))
    all_goals try (exfalso;omega)
    exact⟨.inl rfl,_,rfl,rfl,rfl⟩
   | false =>
    rw [hb] at h5
    obtain rfl:=q2 hb
    repeat' (first|refine z0 ?_|apply ag|apply ae|refine z16 ?_|apply ai|apply ak|refine z18 ?_|refine z19 ?_|apply aa|apply av|refine z21 ?_ (hc:=by apply h2)|refine z21 ?_ (hc:=by apply h3)|refine z21 ?_ (hc:=by apply h4)|refine z21 ?_ (hc:=by apply h5)|fail)
    all_goals try (exfalso;omega)
    all_goals exact⟨.inl rfl,_,rfl,rfl,rfl⟩
  ·rw [decide_eq_false hf,Bool.false_and] at q2
   rw [decide_eq_false hf,Bool.false_and]
   obtain rfl:=q2 rfl
   generalize factE p.arity f=ee at *
   repeat' (first|refine z0 ?_|refine z12 ?_|apply ag|apply ae|refine z16 ?_|apply ai|apply ak|refine z18 ?_|refine z19 ?_|apply aa|apply av|refine z21 ?_ (hc:=by apply h2)|refine z21 ?_ (hc:=by apply h3)|refine z21 ?_ (hc:=by apply h4)|((fail_if_success (apply a8;exact rfl));apply a6;exact rfl;exact rfl;exact rfl;all_goals intro hg))
   all_goals try (exfalso;omega)
   all_goals exact⟨.inl rfl,_,rfl,rfl,rfl⟩
 ·have hE:prvE p f e=e:=if_neg he
  have hB:prvB p m f e=false:=by unfold prvB;rw [hE,decide_eq_false he,Bool.false_and]
  rw [hB] at q2
  rw [hE,hB]
  obtain rfl:=q2 rfl
  repeat' (first|refine z0 ?_|refine z12 ?_|apply ag|apply ae|refine z16 ?_|apply ai|apply ak|refine z18 ?_|refine z19 ?_|apply aa|apply av|refine z21 ?_ (hc:=by apply h2)|refine z21 ?_ (hc:=by apply h3)|(refine z23 ?_ ?_ <;> intro hg)|((fail_if_success (apply a8;exact rfl));apply a6;exact rfl;exact rfl;exact rfl;all_goals intro hg))
  all_goals try (exfalso;omega)
  all_goals exact⟨.inl rfl,_,rfl,rfl,rfl⟩
end Go.Proofs.YtapciiffpnociacGreat
