/- Several texts in one: MoF MoG SamP MoH MoI WhA WhB WhC WhD WhE. Condition: none. -/
import Derived.Test.YtapciiffpnociacGreatW22
import Derived.Test.YtapciiffpnociacGreatW09
import Derived.Test.YtapciiffpnociacGreatW21
import Derived.Test.YtapciiffpnociacGreatW08
namespace Go.Proofs.YtapciiffpnociacGreat
open Go Go.RowKit
theorem setF_self {l:List Fct} (h:Strict l):b9 l=l:=strict_ext (bw l).1 h (bw l).2
structure HdOk (p:Prg) (lv:List Int) (n:Nat) (S hs:List Fct) (i:Nat):Prop where
 src:∀ x∈hs,∃ r∈p.rules,lv.getD r.pred.toNat 0=n∧x∈hdW S r
 all:∀ j (hj:j < p.rules.length),j < i→lv.getD (p.rules[j]).pred.toNat 0=n→manyW S p.rules[j]=true∧∀ x∈hdW S p.rules[j],x∈hs
 len:hs.length≤2000 * i
attribute [local irreducible] DW DS DL DQ Ev FnOk FnP thenD b7 DT
set_option maxHeartbeats 8000000 in
theorem modelOf_fn (p:Prg) (l:List Fct) (ho:MOk p l) :
  Fn 65 [elPrg p,.d (.slice 2 (l.map ay))]
   (fun r=>∃ (m:List Fct) (b:Bool),r = .tup [.d (.slice 2 (m.map ay)),.d (.bool b)]∧((b=true∧RunTo p (docLv p) l p.arity.length m)∨(b=false∧m=[]∧¬ ∃ m,RunTo p (docLv p) l p.arity.length m))):=by
 refine au _ Tryz.func65 rfl rfl (by kernel_rfl) ?_
 intro O w0 E0 β0
 have hp:=ho.pr
 have hlv:=ho.fit
 have hll:=ho.len
 have la:(p.arity.map bf).length=p.arity.length:=List.length_map _
 have lr:(p.rules.map co).length=p.rules.length:=List.length_map _
 have hal:=hp.alen
 have hrl:=hp.rlen
 have w1:=levelsOf_fn p (progE_ok ho.prog)
 have w2:=setOf_fn l (by omega)
 generalize docLv p=lv at *
 have llv:(lv.map bf).length=lv.length:=List.length_map _
 repeat' (first|refine z0 ?_|apply ag|apply ae|refine z16 ?_|apply ah|apply aa|refine z21 ?_ (hc:=by apply w1)|refine z21 ?_ (hc:=by apply w2)|refine z1 ?_|fail)
 refine bh (ι:=Nat × List Fct) (fun c=>⟨1,[(2,.loc 0 0),(6,.d (.slice 1 (lv.map bf))),(8,.d (.slice 2 (c.2.map ay))),(9,.d (.int .i64 c.1))],
   [(0,.blk 26 [.d (.slice 1 (p.arity.map bf)),.d (.slice 1 (p.names.map encT)),.d (.slice 5 (p.rules.map co))])]⟩)
  (fun c=>c.1≤p.arity.length∧RunTo p lv l c.1 c.2) (fun c=>p.arity.length - c.1) (0,b9 l) ⟨Nat.zero_le _,rfl⟩
  (aj id ⟨rfl,rfl,rfl,rfl,trivial⟩ ⟨rfl,trivial⟩ rfl rfl rfl rfl rfl rfl) ?_
 rintro⟨n,m0⟩ ⟨g1,g2⟩
 dsimp only at g1 g2 ⊢
 obtain⟨s1,s2,s3,s4⟩:=RunTo.ok ho.facts ho.len g2
 have hV:=lvV_ok hp hlv n m0
 by_cases hn:n < p.arity.length
 ·clear w1 w2
  repeat' (first|refine z0 ?_|apply ag|apply ae|refine z16 ?_|apply ah|apply ai|apply aq|apply ak|apply aa|apply ap|refine z17 ?_|(refine z23 ?_ ?_ <;> intro hg)|fail)
  all_goals try (exfalso;omega)
  refine bh (ι:=Int × List Fct) (fun c=>⟨1,[(2,.loc 0 0),(6,.d (.slice 1 (lv.map bf))),(8,.d (.slice 2 (c.2.map ay))),(9,.d (.int .i64 n)),(10,.d (.int .i64 c.1))],
    [(0,.blk 26 [.d (.slice 1 (p.arity.map bf)),.d (.slice 1 (p.names.map encT)),.d (.slice 5 (p.rules.map co))])]⟩)
   (fun c=>InvM (lvV p lv n m0) m0 c.2∧(c.1 = -1∨∃ S1,c.1=(S1.length:Int)∧Strict S1∧(∀ x∈S1,x∈c.2)∧∀ r∈(lvV p lv n m0).rs,manyW S1 r=true∧∀ x∈hdW S1 r,x∈c.2)) (fun c=>2 * (61 - c.2.length) + if c.1 < c.2.length then 1 else 0) (-1,m0) ⟨inv_first s1 ⟨s3,fun _ _=>Iff.rfl⟩ s2,.inl rfl⟩
   (aj id ⟨rfl,rfl,rfl,rfl,rfl,trivial⟩ ⟨rfl,trivial⟩ rfl rfl rfl rfl rfl rfl) ?_
  rintro⟨many,S⟩ ⟨q1,q2⟩
  dsimp only at q1 q2 ⊢
  have lS:(S.map ay).length=S.length:=List.length_map _
  have hS60:=q1.len
  repeat' ((fail_if_success (apply cv 10));(first|refine z0 ?_|apply ag|apply ae|refine z16 ?_|apply ah|apply ai|apply aq|apply aa|apply ap|apply aw|refine z17 ?_|(refine z23 ?_ ?_ <;> intro hg)|fail))
  ·refine bl (ent_nilrow (t:=11) 48 2 rfl) ?_
   repeat' (first|refine z0 ?_|apply ag|apply ae|refine z16 ?_|apply ah|apply aa)
   refine bh (ι:=Nat × List Fct) (fun c=>⟨2,[(2,.loc 0 0),(6,.d (.slice 1 (lv.map bf))),(8,.d (.slice 2 (S.map ay))),(9,.d (.int .i64 n)),(10,.d (.int .i64 S.length)),(11,.row 1),(12,.d (.int .i64 c.1))],
     [(0,.blk 26 [.d (.slice 1 (p.arity.map bf)),.d (.slice 1 (p.names.map encT)),.d (.slice 5 (p.rules.map co))]),(1,.row 48 2 (c.2.map ay))]⟩)
    (fun c=>c.1≤p.rules.length∧HdOk p lv n S c.2 c.1) (fun c=>p.rules.length - c.1) (0,[]) ⟨Nat.zero_le _,⟨fun x hx=>by simp at hx,fun j _ h=>absurd h (Nat.not_lt_zero j),by simp⟩⟩
    (aj id ⟨rfl,rfl,rfl,rfl,by rw [← lS];rfl,rfl,rfl,trivial⟩ ⟨rfl,rfl,trivial⟩ rfl rfl rfl rfl rfl rfl) ?_
   rintro⟨i,hs⟩ ⟨r1,r2⟩
   dsimp only at r1 r2 ⊢
   have lhs:(hs.map ay).length=hs.length:=List.length_map _
   have hsl:=r2.len
   by_cases hi:i < p.rules.length
   ·have hr:=hp.rul _ (List.getElem_mem hi)
    have hpr:=hr.pred
    have hlvl:=hlv.len
    have hgd:lv.getD (p.rules[i]).pred.toNat 0=lv[(p.rules[i]).pred.toNat]'(by omega):=by rw [List.getD,List.getElem?_eq_getElem (by omega)];rfl
    have hok:=raw_ok hr hp.ar q1.a.1 q1.strict.nodup
    have hSS:=setF_self q1.strict
    have w1:=waysOf_fn S p.rules[i] hS60 (by rw [hSS];exact rulS_mk hr hp.ar q1.a.1)
    rw [hSS] at w1
    have w2:=headsOf_fn p.arity p.rules[i] (rawW S p.rules[i]) hok
    have hhl:(b9 (headsD p.rules[i] (rawW S p.rules[i]))).length≤2000:=by
     refine Nat.le_trans (setF_lenle _) ?_
     rw [headsD_eq]
     exact Nat.le_trans (List.length_filterMap_le _ _) hok.many
    have lhd:((b9 (headsD p.rules[i] (rawW S p.rules[i]))).map ay).length=(b9 (headsD p.rules[i] (rawW S p.rules[i]))).length:=List.length_map _
    by_cases hlev:lv.getD (p.rules[i]).pred.toNat 0=n
    ·have hrs:p.rules[i]∈(lvV p lv n m0).rs:=List.mem_filter.2 ⟨List.getElem_mem hi,decide_eq_true hlev⟩
     rw [hgd] at hlev
     cases hmm:manyW S p.rules[i] with
     | false =>
      rw [hmm] at w1
      clear w2
      repeat' (first|refine z0 ?_|apply ag|apply ae|refine z16 ?_|apply ah|apply ai|apply aq|refine z18 ?_|apply aa|apply ap|refine z17 ?_|refine z21 ?_ (hc:=by apply w1)|(refine z23 ?_ ?_ <;> intro hg)|fail)
      all_goals try (exfalso;omega)
      refine bl (dc 4 2 rfl) ?_
      repeat' (first|apply ak|apply av|apply bq)
      exact⟨.inl rfl,_,rfl,rfl,[],false,rfl,.inr ⟨rfl,rfl,run_none hn g2 (no_many hV q1 hrs hmm)⟩⟩
     | true =>
      rw [hmm] at w1
      repeat' (first|refine z0 ?_|apply ag|apply ae|refine z16 ?_|apply ah|apply ai|apply aq|refine z19 ?_|apply aa|apply ap|apply aw|refine z17 ?_|refine z21 ?_ (hc:=by apply w1)|refine z21 ?_ (hc:=by apply w2)|refine z2 ?_|(refine z23 ?_ ?_ <;> intro hg)|fail)
      all_goals try (exfalso;omega)
      refine⟨(i + 1,hs++hdW S p.rules[i]),⟨hi,fun x hx=>?_,fun j hj hji hl=>?_,?_⟩,aj (fun j=>match j with|1=>2|j=>j) ⟨rfl,rfl,rfl,rfl,rfl,rfl,rfl,trivial⟩ ⟨rfl,by dsimp only;rw [List.map_append];rfl,trivial⟩ rfl rfl rfl rfl rfl rfl,by dsimp only;omega⟩
      ·rcases List.mem_append.1 hx with hx|hx
       ·exact r2.src x hx
       ·exact⟨_,List.getElem_mem hi,hgd.trans hlev,hx⟩
      ·by_cases he:j=i
       ·subst he
        exact⟨hmm,fun x hx=>List.mem_append_right _ hx⟩
       ·obtain⟨a1,a2⟩:=r2.all j hj (by omega) hl
        exact⟨a1,fun x hx=>List.mem_append_left _ (a2 x hx)⟩
      ·dsimp only
       rw [List.length_append]
       show hs.length + (b9 (headsD p.rules[i] (rawW S p.rules[i]))).length≤_
       omega
    ·rw [hgd] at hlev
     clear w1 w2
     repeat' (first|refine z0 ?_|apply ag|apply ae|refine z16 ?_|apply ah|apply ai|apply aq|apply aa|apply ap|refine z17 ?_|(refine z23 ?_ ?_ <;> intro hg)|fail)
     all_goals try (exfalso;omega)
     exact⟨(i + 1,hs),⟨hi,r2.src,fun j hj hji hl=>by
      by_cases he:j=i
      ·subst he;exact absurd (hgd.symm.trans hl) hlev
      ·exact r2.all j hj (by omega) hl,by dsimp only;omega⟩,aj id ⟨rfl,rfl,rfl,rfl,rfl,rfl,rfl,trivial⟩ ⟨rfl,rfl,trivial⟩ rfl rfl rfl rfl rfl rfl,by dsimp only;omega⟩
   ·have hil:i=p.rules.length:=by omega
    subst hil
    have hHn:=bw (minusL hs S)
    have hHl:(b9 (minusL hs S)).length≤hs.length:=Nat.le_trans (setF_lenle _) (List.length_filter_le _ _)
    have w3:=minusOf_fn hs S (by omega)
    have w4:=unionOf_fn S (b9 (minusL hs S)) (by omega)
    have lH:((b9 (minusL hs S)).map ay).length=(b9 (minusL hs S)).length:=List.length_map _
    have hsrc:∀ x∈b9 (minusL hs S),∃ r∈(lvV p lv n m0).rs,∃ m',InvM (lvV p lv n m0) m0 m'∧x∈(lvV p lv n m0).hd m' r:=by
     intro x hx
     obtain⟨r,a1,a2,a3⟩:=r2.src x (List.mem_filter.1 ((hHn.2 x).1 hx)).1
     exact⟨r,List.mem_filter.2 ⟨a1,decide_eq_true a2⟩,S,q1,a3⟩
    repeat' (first|refine z0 ?_|apply ag|apply ae|refine z16 ?_|apply ah|apply ai|apply aq|apply aa|apply ap|refine z17 ?_|(refine z23 ?_ ?_ <;> intro hg)|fail)
    all_goals try (exfalso;omega)
    refine ds_ent (cg 74 rfl rfl rfl) ?_
    repeat' (first|refine z0 ?_|apply ag|apply ae|refine z16 ?_|apply ai|apply aa|apply aw|refine z21 ?_ (hc:=by apply w3)|refine z21 ?_ (hc:=by apply w4)|(refine z23 ?_ ?_ <;> intro hg)|fail)
    all_goals try (exfalso;omega)
    ·refine bl (dc 4 2 rfl) ?_
     repeat' (first|apply ak|apply av|apply bq)
     refine⟨.inl rfl,_,rfl,rfl,[],false,rfl,.inr ⟨rfl,rfl,run_none hn g2 (no_room hV q1 hsrc hHn.1.nodup (fun x hx hxS=>?_) (by omega))⟩⟩
     have:=(List.mem_filter.1 ((hHn.2 x).1 hx)).2
     rw [hasF_iff.2 hxS] at this
     cases this
    ·have hU:=bw (S++b9 (minusL hs S))
     have hUl:=setF_lenle (S++b9 (minusL hs S))
     rw [List.length_append] at hUl
     have hinv:=inv_put hV q1 hsrc (by omega)
     have hle:S.length≤(b9 (S++b9 (minusL hs S))).length:=nodup_len q1.strict.nodup fun x hx=>(hU.2 x).2 (List.mem_append_left _ hx)
     have hl60:=hinv.len
     refine⟨((S.length:Int),b9 (S++b9 (minusL hs S))),⟨hinv,.inr ⟨S,rfl,q1.strict,fun x hx=>(hU.2 x).2 (List.mem_append_left _ hx),fun r hr=>?_⟩⟩,aj id ⟨rfl,rfl,rfl,rfl,rfl,trivial⟩ ⟨rfl,trivial⟩ rfl rfl rfl rfl rfl rfl,?_⟩
     ·obtain⟨hm,hl⟩:=List.mem_filter.1 hr
      obtain⟨j,hj,rfl⟩:=List.mem_iff_getElem.1 hm
      obtain⟨a1,a2⟩:=r2.all j hj hj (of_decide_eq_true hl)
      refine⟨a1,fun x hx=>(hU.2 x).2 ?_⟩
      by_cases hxS:hasF S x=true
      ·exact List.mem_append_left _ (hasF_iff.1 hxS)
      ·exact List.mem_append_right _ ((hHn.2 x).2 (List.mem_filter.2 ⟨a2 x hx,by simpa using hxS⟩))
     ·dsimp only
      rw [if_pos (by omega:many < (S.length:Int))]
      split <;> omega
  ·rcases q2 with q2|⟨S1,e1,e2,e3,e4⟩
   ·exfalso;omega
   ·have he:=same_len e2 q1.strict e3 (by omega)
    subst he
    exact⟨(n + 1,S1),⟨hn,m0,g2,fit_done q1 (fun r hr=>(e4 r hr).1) fun r hr=>(e4 r hr).2⟩,aj id ⟨rfl,rfl,rfl,rfl,trivial⟩ ⟨rfl,trivial⟩ rfl rfl rfl rfl rfl rfl,by dsimp only;omega⟩
 ·have hnn:n=p.arity.length:=by omega
  subst hnn
  repeat' (first|refine z0 ?_|apply ag|apply ae|refine z16 ?_|apply ah|apply ai|apply aq|apply ak|apply aa|apply ap|refine z17 ?_|(refine z23 ?_ ?_ <;> intro hg)|fail)
  all_goals try (exfalso;omega)
  exact⟨.inl rfl,_,rfl,rfl,m0,true,rfl,.inl ⟨rfl,g2⟩⟩
set_option maxHeartbeats 8000000 in
theorem checkModel_fn (p:Prg) (l:List Fct):Fn 24 [elPrg p,.d (.slice 2 (l.map ay))] (fun r=>r = .d (.int .i64 (mErr p l))):=by
 refine au _ Tryz.func24 rfl rfl (by kernel_rfl) ?_
 intro O w0 E0 β0
 have w1:=rcheck_fn p
 have w3:=checkFacts_fn p l
 unfold mErr
 by_cases h0:progE nameR p=0
 ·have w2:=levelsOf_fn p (progE_ok h0)
  rw [h0] at w1 ⊢
  rw [if_neg (by simp)]
  cases hd:docOk p with
  | true =>
   rw [hd] at w2
   rw [if_neg (by simp)]
   repeat' (first|refine z0 ?_|apply ag|apply ae|refine z16 ?_|apply ai|apply ak|refine z19 ?_|apply aa|refine z21 ?_ (hc:=by apply w1)|refine z21 ?_ (hc:=by apply w2)|refine z21 ?_ (hc:=by apply w3)|refine z1 ?_|fail)
   all_goals try (exfalso;omega)
   exact⟨.inl rfl,_,rfl,rfl,rfl⟩
  | false =>
   rw [hd] at w2
   rw [if_pos rfl]
   repeat' (first|refine z0 ?_|apply ag|apply ae|refine z16 ?_|apply ai|apply ak|refine z18 ?_|refine z19 ?_|apply aa|apply av|refine z21 ?_ (hc:=by apply w1)|refine z21 ?_ (hc:=by apply w2)|refine z1 ?_|fail)
   all_goals try (exfalso;omega)
   exact⟨.inl rfl,_,rfl,rfl,rfl⟩
 ·rw [if_pos h0]
  generalize progE nameR p=e at *
  clear w3
  repeat' (first|refine z0 ?_|apply ag|apply ae|refine z16 ?_|apply ai|apply ak|apply aa|apply av|refine z21 ?_ (hc:=by apply w1)|refine z1 ?_|(refine z23 ?_ ?_ <;> intro hg)|fail)
  all_goals try (exfalso;omega)
  exact⟨.inl rfl,_,rfl,rfl,rfl⟩
set_option maxHeartbeats 8000000 in
theorem fullModel_fn (p:Prg) (l:List Fct) (e:Int) (m:List Fct) (hm:ModelR p l e m):Fn 23 [elPrg p,.d (.slice 2 (l.map ay))] (fun r=>r = .tup [.d (.slice 2 (m.map ay)),.d (.int .i64 e)]):=by
 refine au _ Tryz.func23 rfl rfl (by kernel_rfl) ?_
 intro O w0 E0 β0
 have w1:=checkModel_fn p l
 by_cases h0:mErr p l=0
 ·rw [h0] at w1
  have w2:=modelOf_fn p l (mOk h0)
  repeat' (first|refine z0 ?_|apply ag|apply ae|refine z16 ?_|apply ai|refine z19 ?_|apply aa|refine z21 ?_ (hc:=by apply w1)|refine z1 ?_|fail)
  all_goals try (exfalso;omega)
  apply ds_call;exact rfl;exact rfl;exact w2;exact rfl;exact rfl;exact rfl
  rintro _ ⟨m',b,rfl,⟨rfl,q1⟩|⟨rfl,rfl,q1⟩⟩
  ·obtain⟨he,hx'⟩:=hm.unique (.ok m' h0 q1)
   subst he
   subst hx'
   clear w1 w2
   repeat' (first|refine z0 ?_|apply ag|apply ae|refine z16 ?_|apply ai|apply ak|refine z19 ?_|apply aa)
   all_goals try (exfalso;omega)
   exact⟨.inl rfl,_,rfl,rfl,rfl⟩
  ·obtain⟨he,hx'⟩:=hm.unique (.much h0 q1)
   subst he
   subst hx'
   clear w1 w2
   repeat' (first|refine z0 ?_|apply ag|apply ae|refine z16 ?_|refine z18 ?_|apply aa)
   all_goals try (exfalso;omega)
   refine bl (dc 4 2 rfl) ?_
   repeat' (first|apply ak|apply av)
   exact⟨.inl rfl,_,rfl,rfl,rfl⟩
 ·obtain⟨he,hx'⟩:=hm.unique (.bad h0)
  subst he
  subst hx'
  generalize mErr p l=e at *
  repeat' (first|refine z0 ?_|apply ag|apply ae|refine z16 ?_|apply ai|apply aa|refine z21 ?_ (hc:=by apply w1)|refine z1 ?_|(refine z23 ?_ ?_ <;> intro hg)|fail)
  all_goals try (exfalso;omega)
  refine bl (dc 4 2 rfl) ?_
  repeat' (first|apply ak|apply av)
  exact⟨.inl rfl,_,rfl,rfl,rfl⟩

def smallQ:Rul:=⟨1,[⟨0,0⟩,⟨1,0⟩],0,[⟨1,0,0,[⟨0,0⟩,⟨1,0⟩]⟩],2⟩
theorem smallP_rules:smallP.rules=[smallQ,smallR]:=rfl
theorem small_doc:docOk smallP=true:=by kernel_rfl
theorem small_lv:docLv smallP=[0,0]:=by kernel_rfl
theorem small_err:mErr smallP pairsF=0:=by
 unfold mErr
 rw [if_neg (by rw [show progE nameR smallP=0 by kernel_rfl];simp),if_neg (by rw [small_doc];simp)]
 kernel_rfl
theorem one_way {S:List Fct} {r:Rul} {o:List (List Int)} (h:fromE S r.body (yesOf r.body) (e0 r.vars.toNat)=o) (hs:SortW o) (hl:o.length≤2000):manyW S r=true∧rawW S r=o:=by
 have hw:waysL S r.vars.toNat r.body=o:=(waysL_eq hs (by rw [h])).symm
 have hm:manyW S r=true:=by unfold manyW;rw [hw];exact decide_eq_true hl
 exact⟨hm,by unfold rawW;rw [if_pos hm,hw]⟩
theorem sortW_two {a b:List Int} (h:ordL a b≤0):SortW [a,b]:=List.pairwise_cons.2 ⟨fun x hx=>by rw [List.mem_singleton] at hx;subst hx;exact h,List.pairwise_singleton _ _⟩
def midF:List Fct:=[⟨0,[1,2]⟩,⟨0,[2,3]⟩,⟨1,[1,2]⟩,⟨1,[2,3]⟩]
theorem q_pairs:manyW pairsF smallQ=true∧rawW pairsF smallQ=[[1,2],[2,3]]:=one_way (by kernel_rfl) (sortW_two (by decide)) (by simp)
theorem q_full:manyW fullF smallQ=true∧rawW fullF smallQ=[[1,2],[2,3]]:=one_way (by kernel_rfl) (sortW_two (by decide)) (by simp)
theorem r_mid:manyW midF smallR=true∧rawW midF smallR=[[1,2,3]]:=one_way (by kernel_rfl) (List.pairwise_singleton _ _) (by simp)
theorem r_full:manyW fullF smallR=true∧rawW fullF smallR=[[1,2,3]]:=one_way (by kernel_rfl) (List.pairwise_singleton _ _) (by simp)
theorem small_fct:∀ x∈fullF,FctOk smallP.arity x:=by
 intro x hx
 have:ce (factE smallP.arity) fullF=0:=by kernel_rfl
 exact factE_ok (firstL_all0 this x hx)
theorem small_strict:Strict fullF:=by
 have:=(bw fullF).1
 rw [show b9 fullF=fullF by kernel_rfl] at this
 exact this
theorem small_model:ModelR smallP pairsF 0 fullF:=by
 have ho:=mOk small_err
 have hV:=lvV_ok ho.pr ho.fit 0 pairsF
 have hset0:b9 pairsF=pairsF:=by kernel_rfl
 have hst0:Strict pairsF:=by
  have:=(bw pairsF).1
  rw [hset0] at this
  exact this
 have i0:InvM (lvV smallP (docLv smallP) 0 pairsF) pairsF pairsF:=inv_first hst0 ⟨ho.facts,fun _ _=>Iff.rfl⟩ (by decide)
 have hQ:smallQ∈(lvV smallP (docLv smallP) 0 pairsF).rs:=List.mem_filter.2 ⟨by rw [smallP_rules];simp,by rw [small_lv];decide⟩
 have hR:smallR∈(lvV smallP (docLv smallP) 0 pairsF).rs:=List.mem_filter.2 ⟨by rw [smallP_rules];simp,by rw [small_lv];decide⟩
 have hq:hdW pairsF smallQ=[⟨1,[1,2]⟩,⟨1,[2,3]⟩]:=by unfold hdW;rw [q_pairs.2];kernel_rfl
 have hr:hdW midF smallR=[⟨1,[1,3]⟩]:=by unfold hdW;rw [r_mid.2];kernel_rfl
 have hqf:hdW fullF smallQ=[⟨1,[1,2]⟩,⟨1,[2,3]⟩]:=by unfold hdW;rw [q_full.2];kernel_rfl
 have hrf:hdW fullF smallR=[⟨1,[1,3]⟩]:=by unfold hdW;rw [r_full.2];kernel_rfl
 have i1:=inv_put hV i0 (H:=[⟨1,[1,2]⟩,⟨1,[2,3]⟩]) (fun x hx=>⟨smallQ,hQ,pairsF,i0,by show x∈hdW pairsF smallQ;rw [hq];exact hx⟩) (by decide)
 rw [show b9 (pairsF++[⟨1,[1,2]⟩,⟨1,[2,3]⟩])=midF by kernel_rfl] at i1
 have i2:=inv_put hV i1 (H:=[⟨1,[1,3]⟩]) (fun x hx=>⟨smallR,hR,midF,i1,by show x∈hdW midF smallR;rw [hr];exact hx⟩) (by decide)
 rw [show b9 (midF++[⟨1,[1,3]⟩])=fullF by kernel_rfl] at i2
 have hfit0:Fit (lvV smallP (docLv smallP) 0 pairsF) pairsF fullF:=by
  have key:∀ r∈(lvV smallP (docLv smallP) 0 pairsF).rs,manyW fullF r=true∧∀ x∈hdW fullF r,x∈fullF:=by
   intro r hr'
   have hm:=(List.mem_filter.1 hr').1
   rw [smallP_rules] at hm
   simp only [List.mem_cons,List.not_mem_nil,or_false] at hm
   rcases hm with rfl|rfl
   ·refine⟨q_full.1,fun x hx=>?_⟩
    rw [hqf] at hx
    simp only [List.mem_cons,List.not_mem_nil,or_false] at hx
    rcases hx with rfl|rfl <;> simp [fullF]
   ·refine⟨r_full.1,fun x hx=>?_⟩
    rw [hrf] at hx
    simp only [List.mem_cons,List.not_mem_nil,or_false] at hx
    subst hx
    simp [fullF]
  exact fit_done i2 (fun r hr=>(key r hr).1) fun r hr=>(key r hr).2
 have hfit1:Fit (lvV smallP (docLv smallP) 1 fullF) fullF fullF:=by
  have hno:∀ r∈(lvV smallP (docLv smallP) 1 fullF).rs,False:=by
   intro r hr'
   obtain⟨hm,hl⟩:=List.mem_filter.1 hr'
   rw [smallP_rules] at hm
   simp only [List.mem_cons,List.not_mem_nil,or_false] at hm
   rw [small_lv] at hl
   rcases hm with rfl|rfl <;> exact absurd (of_decide_eq_true hl) (by decide)
  exact fit_done (inv_first small_strict ⟨small_fct,fun _ _=>Iff.rfl⟩ (by decide)) (fun r hr=>(hno r hr).elim) fun r hr=>(hno r hr).elim
 refine .ok fullF small_err ⟨fullF,⟨pairsF,?_,?_⟩,?_⟩
 ·show pairsF=b9 pairsF
  exact hset0.symm
 ·exact hfit0
 ·exact hfit1

abbrev elStp (s:Stp):SV:=.agg [.d (.int .i64 s.fact.pred),.d (.slice 1 (s.fact.args.map bf)),.d (.int .i64 s.rule),.d (.slice 1 (s.vars.map bf))]
def isSB (f:Fct) (s:Stp):Bool:=decide (c9 s.fact f=0)
def hasS (l:List Stp) (f:Fct):Bool:=l.any (isSB f)
theorem hasS_take {l:List Stp} {f:Fct} {i:Nat} (hi:i < l.length):hasS (l.take (i + 1)) f=(hasS (l.take i) f || isSB f l[i]):=by
 unfold hasS
 rw [List.take_succ_eq_append_getElem hi,List.any_append]
 simp
set_option maxHeartbeats 8000000 in
theorem hasStep_fn (l:List Stp) (f:Fct):Fn 78 [.d (.slice 4 (l.map bt)),elFct f] (fun r=>r = .d (.bool (hasS l f))):=by
 refine au _ Tryz.func78 rfl rfl (by kernel_rfl) ?_
 intro O w0 E0 β0
 have ll:(l.map bt).length=l.length:=List.length_map _
 refine da (t:=0) rfl fun hb=>?_
 repeat' (first|refine z0 ?_|apply ag|apply ae|refine z16 ?_|apply ah|apply aa|refine z1 ?_|fail)
 refine bh (ι:=Nat) (fun i=>⟨1,[(0,.d (.slice 4 (l.map bt))),(3,.loc 0 0),(4,.d (.bool false)),(5,.d (.int .i64 i))],[(0,.blk 48 [.d (.int .i64 f.pred),.d (.slice 1 (f.args.map bf))])]⟩)
  (fun i=>i≤l.length∧hasS (l.take i) f=false) (fun i=>l.length - i) 0 ⟨Nat.zero_le _,rfl⟩ (aj id ⟨rfl,rfl,rfl,rfl,trivial⟩ ⟨rfl,trivial⟩ rfl rfl rfl rfl rfl rfl) ?_
 rintro i ⟨g1,g2⟩
 dsimp only at g1 g2 ⊢
 by_cases hi:i < l.length
 ·have w1:=orderOf_fn l[i].fact f
  have hs:=hasS_take (f:=f) hi
  rw [g2,Bool.false_or] at hs
  repeat' (first|refine z0 ?_|apply ag|refine z5 ?_|refine z10 ?_|apply ae|refine z16 ?_|refine z20 ?_|apply ah|apply ai|apply aq|apply ak|apply aa|apply ap|apply av|apply aw|apply bq|refine z17 ?_|refine z22 ?_ (hc:=by apply w1)|(refine z23 ?_ ?_ <;> intro hg)|fail)
  all_goals try (exfalso;omega)
  ·have:hasS l f=true:=by
    unfold hasS
    exact List.any_eq_true.2 ⟨_,List.getElem_mem hi,by unfold isSB;simp_all⟩
   rw [this]
   exact⟨.inl rfl,_,rfl,rfl,rfl⟩
  ·exact⟨i + 1,⟨hi,by rw [hs];unfold isSB;simp_all⟩,aj id ⟨rfl,rfl,rfl,rfl,trivial⟩ ⟨rfl,trivial⟩ rfl rfl rfl rfl rfl rfl,by omega⟩
 ·rw [List.take_of_length_le (by omega)] at g2
  rw [g2]
  repeat' (first|refine z0 ?_|apply ag|refine z5 ?_|apply ae|refine z16 ?_|refine z20 ?_|apply ah|apply ai|apply aq|apply ak|apply aa|apply ap|refine z17 ?_|(refine z23 ?_ ?_ <;> intro hg)|fail)
  all_goals try (exfalso;omega)
  exact⟨.inl rfl,_,rfl,rfl,rfl⟩
set_option maxHeartbeats 8000000 in
theorem met1_fn (f:Fct) (s:Stp):Fn 151 ([elStp s]++[.pd (ay f)]) (fun r=>r = .d (.bool (isSB f s))):=by
 refine au _ Tryz.func151 rfl rfl (by kernel_rfl) ?_
 intro O w0 E0 β0
 have w1:=orderF_fn s.fact f
 repeat' (first|refine z0 ?_|apply ag|apply ae|refine z16 ?_|apply ak|apply aa|refine z21 ?_ (hc:=by apply w1)|refine z1 ?_|fail)
 exact db rfl rfl
set_option maxHeartbeats 8000000 in
theorem indexSt_fn {f:FuncId} {caps:List SV} (p:Stp→Bool) (l:List (Stp)) (hcap:SV.lowL 0 caps=true) (hp:∀ x∈l,Fn f (elStp x::caps) (fun r=>r = .d (.bool (p x)))):Fn 180 [.d (.slice 4 (l.map bt)),.fn f caps] (fun r=>r = .d (.int .i64 (idxF p l))):=by
 refine au _ Tryz.func180 rfl rfl (by kernel_rfl) ?_
 intro O w0 E0 β0
 refine da (t:=0) rfl fun hb=>?_
 repeat' (first|refine z0 ?_|apply ag|apply ae|refine z16 ?_|apply ah|apply aa)
 refine bh (ι:=Nat) (fun i=>⟨0,[(0,.d (.slice 4 (l.map bt))),(1,.fn f caps),(7,.d (.int .i64 l.length)),(8,.d (.int .i64 i))],[]⟩)
  (fun i=>i≤l.length∧∀ j (hj:j < l.length),j < i→p l[j]=false) (fun i=>l.length - i) 0 ⟨Nat.zero_le _,fun j _ h=>absurd h (Nat.not_lt_zero j)⟩
  (aj id ⟨rfl,congrArg (SV.fn f) (SV.renL_id caps).symm,by simp;rfl,rfl,trivial⟩ trivial (by simp [Sl.low,SV.low,hcap]) rfl rfl rfl rfl rfl) ?_
 rintro i ⟨h1,h2⟩
 repeat' (first|refine z0 ?_|apply ag|apply ae|refine z16 ?_|apply aa)
 refine cw rfl (fun h=>?_) (fun h=>?_)
 ·have hi:i < l.length:=by omega
  have hpx:=hp l[i] (List.getElem_mem hi)
  repeat' (first|refine z0 ?_|apply ag|apply ae|refine z16 ?_|apply ah|apply ai|apply aa|(apply ds_callV;exact rfl;exact rfl;exact rfl;exact rfl;apply hpx;exact rfl;(assumption);exact rfl;rintro _ rfl))
  refine bu rfl (fun hb=>?_) (fun hb=>?_)
  ·repeat' (first|refine z0 ?_|apply ag|apply ae|refine z16 ?_|apply ak|apply aa|apply av|apply bq)
   exact cb rfl (idxF_hit h2 hi hb).symm
  ·repeat' (first|refine z0 ?_|apply ag|refine z16 ?_|apply ai|apply aa|apply aw)
   exact⟨i + 1,⟨hi,none_step h2 hi hb⟩,aj id ⟨rfl,congrArg (SV.fn f) (SV.renL_id caps).symm,rfl,rfl,trivial⟩ trivial (by simp [Sl.low,SV.low,hcap]) rfl rfl rfl rfl rfl,by omega⟩
 ·repeat' (first|refine z0 ?_|apply ag|apply ae|refine z16 ?_|apply aq|apply ak|apply aa|apply ap|refine z17 ?_|fail)
  exact cb rfl (idxF_none fun j hj=>h2 j hj (by omega)).symm
set_option maxHeartbeats 8000000 in
theorem containsSt_fn {f:FuncId} {caps:List SV} (p:Stp→Bool) (l:List (Stp)) (hcap:SV.lowL 0 caps=true) (hp:∀ x∈l,Fn f (elStp x::caps) (fun r=>r = .d (.bool (p x)))):Fn 150 [.d (.slice 4 (l.map bt)),.fn f caps] (fun r=>r = .d (.bool (l.any p))):=by
 refine au _ Tryz.func150 rfl rfl (by kernel_rfl) ?_
 intro O w0 E0 β0
 have hx:=indexSt_fn p l hcap hp
 have hlow:SV.lowL 0 [.d (.slice 4 (l.map bt)),.fn f caps]=true:=by simp [SV.lowL,SV.low,hcap]
 repeat' (first|refine z0 ?_|apply ag|apply ae|refine z16 ?_|apply ak|apply aa|refine z21 ?_ (hc:=by apply hx)|fail)
 exact db rfl (idxF_any p l)
set_option maxHeartbeats 8000000 in
theorem met_fn (l:List Stp) (f:Fct):Fn 111 [.d (.slice 4 (l.map bt)),elFct f] (fun r=>r = .d (.bool (hasS l f))):=by
 refine au _ Tryz.func111 rfl rfl (by kernel_rfl) ?_
 intro O w0 E0 β0
 have w1:=containsSt_fn (caps:=[.pd (ay f)]) (isSB f) l rfl (fun s _=>met1_fn f s)
 repeat' ((fail_if_success (apply cv 1));(first|refine z0 ?_|apply ag|apply ae|refine z16 ?_|apply aa|refine z1 ?_|fail))
 refine bl (ent_freezeL (ds:=ay f) 3 0 rfl rfl) ?_
 repeat' (first|refine z0 ?_|apply ag|apply ae|refine z16 ?_|apply ak|apply aa|refine z21 ?_ (hc:=by apply w1)|fail)
 exact db rfl rfl
set_option maxHeartbeats 8000000 in
theorem indexStR_fn {f:FuncId} {caps:List SV} (p:Stp→Bool) (l:List Stp) (hl:l.length≤1000000) (hcap:SV.lowL 0 caps=true) (hcap1:SV.lowL 1 caps=true) (hp:∀ x∈l,Fn f (elStp x::caps) (fun r=>r = .d (.bool (p x)))) :
  FnOk false Tryz.prog tab b8 180 [.row 0,.fn f caps] 1 1 [(0,.row 81 4 (l.map bt))] (fun _ r H=>r = .d (.int .i64 (idxF p l))∧H=[(0,.row 81 4 (l.map bt))]):=by
 refine cr _ Tryz.func180 rfl rfl (by kernel_rfl) ?_
 intro O w0 E0 β0
 have ll:(l.map bt).length=l.length:=List.length_map _
 repeat' (first|refine z0 ?_|apply ag|apply ae|refine z16 ?_|apply ah|apply aa)
 refine bh (ι:=Nat) (fun i=>⟨1,[(0,.row 0),(1,.fn f caps),(7,.d (.int .i64 l.length)),(8,.d (.int .i64 i))],[(0,.row 81 4 (l.map bt))]⟩)
  (fun i=>i≤l.length∧∀ j (hj:j < l.length),j < i→p l[j]=false) (fun i=>l.length - i) 0 ⟨Nat.zero_le _,fun j _ h=>absurd h (Nat.not_lt_zero j)⟩
  (aj id ⟨rfl,congrArg (SV.fn f) (SV.renL_id caps).symm,by simp;rfl,rfl,trivial⟩ ⟨rfl,trivial⟩ (by simp [Sl.low,SV.low,hcap1]) rfl rfl rfl rfl rfl) ?_
 rintro i ⟨h1,h2⟩
 repeat' (first|refine z0 ?_|apply ag|apply ae|refine z16 ?_|apply aa)
 refine cw rfl (fun h=>?_) (fun h=>?_)
 ·have hi:i < l.length:=by omega
  have hpx:=hp l[i] (List.getElem_mem hi)
  repeat' (first|refine z0 ?_|apply ag|apply ae|refine z16 ?_|apply ah|apply ai|apply aa|(apply ds_callV;exact rfl;exact rfl;exact rfl;exact rfl;apply hpx;exact rfl;(assumption);exact rfl;rintro _ rfl))
  refine bu rfl (fun hb=>?_) (fun hb=>?_)
  ·repeat' (first|refine z0 ?_|apply ag|apply ae|refine z16 ?_|apply ak|apply aa|apply av|apply bq)
   exact⟨.inl rfl,_,rfl,id,1,_,[(0,.row 81 4 (l.map bt))],rfl,⟨rfl,trivial⟩,rfl,rfl,rfl,rfl,rfl,rfl,by rw [idxF_hit h2 hi hb],rfl⟩
  ·repeat' (first|refine z0 ?_|apply ag|refine z16 ?_|apply ai|apply aa|apply aw)
   exact⟨i + 1,⟨hi,none_step h2 hi hb⟩,aj id ⟨rfl,congrArg (SV.fn f) (SV.renL_id caps).symm,rfl,rfl,trivial⟩ ⟨rfl,trivial⟩ (by simp [Sl.low,SV.low,hcap1]) rfl rfl rfl rfl rfl,by omega⟩
 ·repeat' (first|refine z0 ?_|apply ag|apply ae|refine z16 ?_|apply aq|apply ak|apply aa|apply ap|refine z17 ?_|fail)
  exact⟨.inl rfl,_,rfl,id,1,_,[(0,.row 81 4 (l.map bt))],rfl,⟨rfl,trivial⟩,rfl,rfl,rfl,rfl,rfl,rfl,by rw [idxF_none fun j hj=>h2 j hj (by omega)],rfl⟩
set_option maxHeartbeats 8000000 in
theorem containsStR_fn (l:List Stp) (f:Fct) (hl:l.length≤1000000) :
  FnOk false Tryz.prog tab b8 150 [.row 0,.fn 151 [.pd (ay f)]] 1 1 [(0,.row 81 4 (l.map bt))] (fun _ r H=>r = .d (.bool (hasS l f))∧H=[(0,.row 81 4 (l.map bt))]):=by
 refine cr _ Tryz.func150 rfl rfl (by kernel_rfl) ?_
 intro O w0 E0 β0
 have hx:=indexStR_fn (caps:=[.pd (ay f)]) (isSB f) l hl rfl rfl (fun s _=>met1_fn f s)
 repeat' (first|refine z0 ?_|apply ag|apply ae|refine z16 ?_|apply aa)
 (refine bx id (hx) rfl rfl rfl rfl ⟨rfl,trivial⟩ rfl rfl rfl rfl rfl rfl ?_ ?_)
 ·rintro k2 r H2 ⟨rfl,rfl⟩;exact⟨rfl,rfl⟩
 rintro k2 r H2 ⟨rfl,rfl⟩
 change DS _ _ _ _ _ _ _ _
 repeat' (first|refine z0 ?_|apply ag|apply ak|apply aa)
 exact⟨.inl rfl,_,rfl,id,1,_,[(0,.row 81 4 (l.map bt))],rfl,⟨rfl,trivial⟩,rfl,rfl,rfl,rfl,rfl,rfl,congrArg (fun b=>SV.d (.bool b)) (idxF_any (isSB f) l),rfl⟩
set_option maxHeartbeats 8000000 in
theorem metR_fn (l:List Stp) (f:Fct) (hl:l.length≤1000000):FnOk false Tryz.prog tab b8 111 [.row 0,elFct f] 1 1 [(0,.row 81 4 (l.map bt))] (fun _ r H=>r = .d (.bool (hasS l f))∧H=[(0,.row 81 4 (l.map bt))]):=by
 refine cr _ Tryz.func111 rfl rfl (by kernel_rfl) ?_
 intro O w0 E0 β0
 have w1:=containsStR_fn l f hl
 repeat' ((fail_if_success (apply cv 1));(first|refine z0 ?_|apply ag|apply ae|refine z16 ?_|apply aa|refine z1 ?_|fail))
 refine bl (ent_freezeL (ds:=ay f) 3 1 rfl rfl) ?_
 repeat' (first|refine z0 ?_|apply ae|refine z16 ?_|fail)
 (refine bx id (w1) rfl rfl rfl rfl ⟨rfl,trivial⟩ rfl rfl rfl rfl rfl rfl ?_ ?_)
 ·rintro k2 r H2 ⟨rfl,rfl⟩;exact⟨rfl,rfl⟩
 rintro k2 r H2 ⟨rfl,rfl⟩
 change DS _ _ _ _ _ _ _ _
 repeat' (first|refine z0 ?_|apply ag|apply ak|apply aa)
 exact⟨.inl rfl,_,rfl,id,1,_,[(0,.row 81 4 (l.map bt))],rfl,⟨rfl,trivial⟩,rfl,rfl,rfl,rfl,rfl,rfl,rfl,rfl⟩
end Go.Proofs.YtapciiffpnociacGreat
namespace Go.Proofs.YtapciiffpnociacGreat
open Go Go.RowKit
attribute [local irreducible] DW DS DL DQ Ev FnOk FnP thenD b7 DWr
def kind1 (x:Ltl):Bool:=decide (x.kind=1)
def yesF (vars:List Int) (x:Ltl):Fct:=⟨x.pred,x.terms.map (vA vars)⟩
def yesX (r:Rul) (vars:List Int):List (List SV):=(r.body.filter kind1).map fun x=>[elFct (yesF vars x)]
def cntY (r:Rul) (i:Nat):Nat:=((r.body.take i).filter kind1).length
set_option maxHeartbeats 8000000 in
theorem yes_fn (r:Rul) (vars:List Int):Fn 110 [elRul r,.d (.slice 1 (vars.map bf))] (fun res=>res = .fn 149 [.pd (co r),.pd [.slice 1 (vars.map bf)]]):=by
 refine au _ Tryz.func110 rfl rfl (by kernel_rfl) ?_
 intro O w0 E0 β0
 repeat' ((fail_if_success (apply cv 1));(first|refine z0 ?_|apply ag|apply ae|refine z16 ?_|apply aa|refine z1 ?_|fail))
 refine bl (ent_freezeL (ds:=co r) 2 0 rfl rfl) ?_
 refine bl (ent_freezeL (ds:=[.slice 1 (vars.map bf)]) 3 1 rfl rfl) ?_
 repeat' (first|refine z0 ?_|apply ag|apply ae|refine z16 ?_|apply ak|apply aa)
 exact⟨.inl rfl,_,rfl,rfl,rfl⟩
theorem yesX_each (r:Rul) (vars:List Int):∀ x∈yesX r vars,1=x.length∧SV.lowL 0 x=true:=by
 intro x hx
 unfold yesX at hx
 obtain⟨y,_,rfl⟩:=List.mem_map.1 hx
 exact⟨rfl,rfl⟩
theorem cntY_skip {r:Rul} {i:Nat} (hi:i < r.body.length) (h:kind1 r.body[i]=false):cntY r (i + 1)=cntY r i:=by
 unfold cntY
 rw [List.take_succ_eq_append_getElem hi,List.filter_append,List.length_append]
 simp [h]
theorem cntY_step {r:Rul} {i:Nat} (hi:i < r.body.length) (h:kind1 r.body[i]=true):cntY r (i + 1)=cntY r i + 1:=by
 unfold cntY
 rw [List.take_succ_eq_append_getElem hi,List.filter_append,List.length_append]
 simp [h]
theorem cntY_all {r:Rul} (vars:List Int) {i:Nat} (hi:r.body.length≤i):cntY r i=(yesX r vars).length:=by
 unfold cntY yesX
 rw [List.take_of_length_le hi,List.length_map]
theorem yesX_at {r:Rul} (vars:List Int) {i:Nat} (hi:i < r.body.length) (h:kind1 r.body[i]=true):∃ hc:cntY r i < (yesX r vars).length,(yesX r vars)[cntY r i]=[elFct (yesF vars r.body[i])]:=by
 have hsplit:r.body.filter kind1=(r.body.take i).filter kind1++r.body[i]::(r.body.drop (i + 1)).filter kind1:=by
  conv=>lhs;rw [← List.take_append_drop i r.body,List.filter_append,List.drop_eq_getElem_cons hi]
  rw [List.filter_cons_of_pos h]
 have h1:(yesX r vars)[cntY r i]? = some [elFct (yesF vars r.body[i])]:=by
  unfold yesX cntY
  rw [hsplit,List.getElem?_map,List.getElem?_append_right (Nat.le_refl _),Nat.sub_self]
  rfl
 obtain⟨h2,h3⟩:=List.getElem?_eq_some_iff.1 h1
 exact⟨h2,h3⟩
abbrev ygL (yv pv qv bv:Value) (n i:Nat):Sl:=[(0,.val yv),(1,.val pv),(2,.val qv),(7,.val bv),(8,.d (.int .i64 n)),(9,.d (.int .i64 i))]
abbrev yg0 (yv pv bv:Value) (n i:Nat):Sl:=[(0,.val yv),(1,.val pv),(7,.val bv),(8,.d (.int .i64 n)),(9,.d (.int .i64 i))]
set_option maxHeartbeats 4000000 in
set_option maxHeartbeats 8000000 in
theorem yes1_seq (r:Rul) (vars:List Int) (hok:∀ x∈r.body,x.kind=1→(∀ t∈x.terms,okT vars.length t)∧x.terms.length≤1000000):SeqD Tryz.prog 149 [.pd (co r),.pd [.slice 1 (vars.map bf)]] (yesX r vars):=by
 refine⟨by kernel_rfl,?_⟩
 intro X e0 W0 lb l J Jx hX hlb hJ0 hfr hJb hJxb hy
 match lb,hlb with
 | [pv,qv],⟨hpd,hqd,_⟩ =>
  have hpd':=hpd
  obtain⟨b,off,hpv,hb,hnX,hcells⟩:=hpd'
  obtain⟨u3,hc3,hr3⟩:=hcells 3 (by show 3 < 5;omega)
  have hr3:RepC X W0 u3 (.slice 4 (r.body.map bp)):=hr3
  obtain⟨ao,cap,hu3,hcap,hmax,_⟩:=hr3.slice_inv
  have hlen:(r.body.map bp).length=r.body.length:=List.length_map _
  rw [hlen] at hu3 hcap
  have hbl:r.body.length≤maxLen:=by omega
  have hbm:r.body.length≤9223372036854775807:=by unfold maxLen at hbl;omega
  refine callsIn_wide.1 (callsIn_of_wp_marks (F:=Fence.wide) (n:=0) Tryz.func149 rfl trivial ?_)
  have hF0:Flat 29 [(0,.val (.func (.yield l) #[] #[])),(1,.val pv),(2,.val qv)] { tmps:=(#[.func (.yield l) #[] #[]]++[pv,qv].toArray)++Array.replicate 26 undef,defers:=[] }:=by
   refine⟨by simp,rfl,fun t X e w=>?_⟩
   rw [Sl.get_cons]
   split
   ·rename_i h;subst h;simp [Rel]
   ·rw [Sl.get_cons]
    split
    ·rename_i h;subst h;simp [Rel]
    ·rw [Sl.get_cons]
     split
     ·rename_i h;subst h;simp [Rel]
     ·trivial
  have hret:∀ (ex:Exit) (a:Act) (W:World),(ex = .normal∨ex = .ret)→a.defers=[]→(J (yesX r vars).length W∨Jx W) →
    bodyPostM Fence.wide 0 Tryz.prog Tryz.f149 (fun en W'=>(∃ v,en = .returned v)∧(J (yesX r vars).length W'∨Jx W')) ex a W:=by
   rintro ex a W hx hd hj
   have:LeavesInM Fence.wide 0 Tryz.prog Tryz.f149 a.tmps (fun en W'=>(∃ v,en = .returned v)∧(J (yesX r vars).length W'∨Jx W')) a.defers .returning W:=by
    rw [hd]
    exact⟨.tuple #[],by simp [results,Tryz.f149],⟨_,rfl⟩,hj⟩
   rcases hx with rfl|rfl <;> exact this
  obtain⟨QQ,hQQ⟩:∃ QQ,QQ=bodyPostM Fence.wide 0 Tryz.prog Tryz.f149 (fun en W'=>(∃ v,en = .returned v)∧(J (yesX r vars).length W'∨Jx W')):=⟨_,rfl⟩
  rw [← hQQ] at hret ⊢
  clear hQQ
  refine wpIn_seq (wpIn_mono (Q:=fun ex a' w'=>ex = .normal∧Flat 29 (ygL (.func (.yield l) #[] #[]) pv qv u3 r.body.length 0) a'∧Below W0.heap.size W0 w') ?_ ?_)
  ·have m0:=hF0.models (P:=Tryz.prog) (τ:=tab) (τok:=b8) (O:=X) W0 hX
   refine dwr_run m0 (dwr_of rfl ?_)
   subst hpv hu3
   apply ds_region;exact rfl
   refine ds_ev (ev_fa_val (l:=[(0,3,1),(1,33,1),(2,3,1),(3,34,1),(4,3,1)]) rfl rfl rfl 1 rfl) rfl rfl ?_
   refine ds_ev (ev_ld_val (u:=.slice ao r.body.length cap) 6 rfl rfl rfl hc3 (fun _=>id)) rfl rfl ?_
   refine ds_ev (ev_len_val 7 (t':=40) rfl rfl hbl) rfl rfl ?_
   repeat' (first|refine z0 ?_|apply ag)
   intro e a w m
   exact⟨rfl,m.flatten ⟨rfl,rfl,rfl,rfl,rfl,rfl,trivial⟩ rfl,m.toHeap.it_below⟩
  rintro ex a0 w0 ⟨rfl,hf0,hbl0⟩
  refine wpIn_block (wpIn_loop_ghost (fun n a W=>∃ i,i≤r.body.length∧n=r.body.length - i∧Flat 29 (ygL (.func (.yield l) #[] #[]) pv qv u3 r.body.length i) a∧J (cntY r i) W) r.body.length ⟨0,Nat.zero_le _,rfl,hf0,hJb _ _ _ hJ0 hbl0⟩ ?_)
  rintro n a W ⟨i,hi,rfl,hf,hj⟩
  obtain⟨hsz,hfrW⟩:=hfr _ _ hj
  have hOW:∀ b,Oit X W0 W b→b < W.heap.size:=fun b h=>h.1
  have m0:=hf.models (P:=Tryz.prog) (τ:=tab) (τok:=b8) (O:=Oit X W0 W) W hOW
  have hv2:∀ {k:Nat} {L:Sl} {H:Hp} {e:Env} {a:Act} {w:World},Models (Γit Tryz.prog tab b8 (Oit X W0 W) W 29) (lo k) L H e a w→L.get 2 = .val qv→Models (Γit Tryz.prog tab b8 (Oit X W0 W) W 29) (lo k) ((2,.pd [.slice 1 (vars.map bf)])::L) H e a w :=
   fun m h=>m.val_as 2 h (it_rel hsz hfrW rfl hqd m.toHeap)
  have hv7:∀ {k:Nat} {L:Sl} {H:Hp} {e:Env} {a:Act} {w:World},Models (Γit Tryz.prog tab b8 (Oit X W0 W) W 29) (lo k) L H e a w→L.get 7 = .val u3→Models (Γit Tryz.prog tab b8 (Oit X W0 W) W 29) (lo k) ((7,.d (.slice 4 (r.body.map bp)))::L) H e a w :=
   fun m h=>m.val_as 7 h (it_rel (e0:=e0) (s:=.d (.slice 4 (r.body.map bp))) hsz hfrW rfl hr3 m.toHeap)
  refine dwr_run m0 ?_
  have hr5:∀ (c5:Code) (a:Act) (W':World),i < r.body.length→Flat 29 (ygL (.func (.yield l) #[] #[]) pv qv u3 r.body.length i) a→J (cntY r (i + 1)) W' →
    DW (Γit Tryz.prog tab b8 X W' 29) c5 (fun ex _ L _=>ex = .normal∧Kepts L (ygL (.func (.yield l) #[] #[]) pv qv u3 r.body.length (i + 1))) 0 (ygL (.func (.yield l) #[] #[]) pv qv u3 r.body.length i) [] →
    Code.wpIn Fence.wide 0 Tryz.prog c5 (Exit.then (fun a' w'=>∃ n',n' < r.body.length - i∧∃ i,i≤r.body.length∧n' = r.body.length - i∧Flat 29 (ygL (.func (.yield l) #[] #[]) pv qv u3 r.body.length i) a'∧J (cntY r i) w') (Exit.inBlock 0 (fun ex a w=>QQ ex a w))) a W':=by
   intro c5 a W' hlt hf' hj' h5
   have hO':∀ b,X b→b < W'.heap.size:=fun b h=>Nat.lt_of_lt_of_le (hX b h) (hfr _ _ hj').1
   have m1:=hf'.models (P:=Tryz.prog) (τ:=tab) (τok:=b8) (O:=X) W' hO'
   refine wpIn_mono (dw_run m1 h5) ?_
   rintro ex a2 w2 (⟨k2,L2,H2,e2,m2,rfl,hk2⟩|⟨_,_,_,_,hv,_⟩)
   ·exact⟨r.body.length - (i + 1),by omega,i + 1,by omega,rfl,m2.flatten hk2 rfl,hJb _ _ _ hj' m2.toHeap.it_below⟩
   ·exact hv.elim
  refine dwr_seq rfl ?_
  repeat' (first|refine z0 ?_|apply ag|refine z16 ?_|apply aa)
  refine dwr_seq rfl ?_
  by_cases hlt:i < r.body.length
  rotate_left
  ·repeat' (first|apply ai|apply aq|apply aa|apply ap|(refine z23 ?_ ?_ <;> intro hg)|fail)
   all_goals try (exfalso;omega)
   intro e a w m
   refine hret .normal a w (.inl rfl) (m.flatten (Ls:=[]) trivial rfl).defers (.inl ?_)
   rw [← cntY_all (r:=r) vars (i:=i) (by omega)]
   exact hJb _ _ _ hj m.toHeap.it_below
  repeat' (first|apply ai|apply aq|apply aa|apply ap|(refine z23 ?_ ?_ <;> intro hg)|fail)
  all_goals try (exfalso;omega)
  refine dwr_seqR (dwr_block ?_)
  refine dwr_seq rfl ?_
  apply ds_region;exact rfl
  refine ds_ev (ev_val ((7,.d (.slice 4 (r.body.map bp)))::_) (fun e a w m=>hv7 m rfl) (ev_index_map (f:=bp) (l:=r.body) (t':=40) rfl rfl rfl rfl rfl rfl hlt)) rfl rfl ?_
  repeat' (first|refine z0 ?_|apply ag|apply aa|refine z1 ?_|refine z3 ?_|fail)
  have hok':=hok _ (List.getElem_mem hlt)
  have hat:=yesX_at vars hlt
  have hskip:=cntY_skip hlt
  have hstep:=cntY_step hlt
  generalize r.body[i]=x at hok' hat hskip hstep ⊢
  obtain⟨kind,op,pred,terms⟩:=x
  dsimp only at hok' ⊢
  by_cases hk1:kind=1
  ·subst hk1
   obtain⟨hc,hx⟩:=hat rfl
   obtain⟨ho1,ho2⟩:=hok' rfl
   have w1:=args_fn terms vars ho1 ho2
   refine dwr_seqR (dwr_yieldA (l:=l) (d:=25) (N:=29) (g:=some (3,true)) (fy:=17) (pre:=[_,_,_,_,_,_,_,_,_,_,_,_]) (post:=[_,_]) (by kernel_rfl) (by rfl) (by kernel_rfl) (by kernel_rfl) (by rfl) (by rfl) (by rfl) (by rfl)
    ((2,.pd [.slice 1 (vars.map bf)])::_) (fun e a w m=>hv2 m rfl) 2 qv rfl (by rfl) ((16,.d (.bool true))::yg0 (.func (.yield l) #[] #[]) pv u3 r.body.length i) rfl (fun b=>(27,.d (.bool (!b)))::ygL (.func (.yield l) #[] #[]) pv qv u3 r.body.length i) (J (cntY r (i + 1))) Jx ?_ ?_ ?_)
   ·repeat' (first|refine z5 ?_|refine z10 ?_|refine z22 ?_ (hc:=by apply w1)|fail)
    refine⟨rfl,rfl,rfl,⟨rfl,rfl,rfl,rfl,rfl,rfl,trivial⟩,fun e W' vs hb1 hvs=>?_⟩
    have:=hy (cntY r i) hc W W' vs hj hb1 ⟨e,by rw [hx];exact hvs⟩
    rw [← hstep rfl] at this
    exact this
   ·intro b W'
    repeat' (first|refine z0 ?_|apply ag)
    exact⟨rfl,⟨rfl,rfl,rfl,rfl,rfl,rfl,rfl,trivial⟩,rfl⟩
   ·rintro b a' W' hfl ⟨W1,hb1,hj1⟩
    have hfl':Flat 29 (ygL (.func (.yield l) #[] #[]) pv qv u3 r.body.length i) a':=⟨hfl.len,hfl.defers,fun t X e w=>by
     have:=hfl.slot t X e w
     rw [Sl.get_cons] at this
     split at this
     ·rename_i h;subst h;trivial
     ·exact this⟩
    have hv:a'.eval (.tmp 27) = .bool (!b):=by
     have h1:=hfl.slot 27 (fun _=>False) ⟨fun _=>0,fun _=>undef,lo 0⟩ W'
     have h1:RepC _ W' (a'.tmps.getD 27 undef) (.bool (!b)):=h1
     show a'.tmps.getD 27 undef=_
     generalize a'.tmps.getD 27 undef=v at h1 ⊢
     cases h1
     rfl
    rcases hj1 with ⟨rfl,hj1⟩|⟨rfl,hj1⟩
    ·refine wpIn_cond_false hv (wpIn_skip ?_)
     refine hr5 _ a' W' hlt hfl' (hJb _ _ _ hj1 hb1) ?_
     repeat' (first|refine z0 ?_|apply ag|refine z16 ?_|fail)
     exact⟨rfl,rfl,rfl,rfl,rfl,rfl,rfl,trivial⟩
    ·refine wpIn_cond_true hv (wpIn_ret ?_)
     exact hret .ret a' W' (.inr rfl) hfl.defers (.inr (hJxb _ _ hj1 hb1))
  ·refine dwr_seq rfl ?_
   repeat' (first|refine z5 ?_|refine z14 ?_|refine z10 ?_|refine z20 ?_|apply aa|((fail_if_success (apply dt_known;exact rfl));apply c8;exact rfl;exact rfl;exact rfl;all_goals intro hg))
   all_goals try (exfalso;omega)
   unfold DWr
   intro e a w m
   have hv:a.eval (.tmp 27) = .bool false:=by
    have h1:RepC _ w (a.tmps.getD 27 undef) (.bool false):=m.slot 27
    show a.tmps.getD 27 undef=_
    generalize a.tmps.getD 27 undef=v at h1 ⊢
    cases h1
    rfl
   refine wpIn_cond_false hv (wpIn_skip ?_)
   refine hr5 _ a w hlt (m.flatten ⟨rfl,rfl,rfl,rfl,rfl,rfl,trivial⟩ rfl) (by rw [hskip (decide_eq_false hk1)];exact hJb _ _ _ hj m.toHeap.it_below) ?_
   repeat' (first|refine z0 ?_|apply ag|refine z16 ?_|fail)
   exact⟨rfl,rfl,rfl,rfl,rfl,rfl,rfl,trivial⟩
abbrev chkD (p:Prg) (l m:List Fct):List D:=[.slice 1 (p.arity.map bf),.slice 1 (p.names.map encT),.slice 5 (p.rules.map co),.slice 2 ((b9 l).map ay),.slice 2 (m.map ay)]
attribute [local irreducible] DT
set_option maxHeartbeats 8000000 in
theorem cway1_fn (n w:List Int):Fn 148 ([elW w]++[.pd [.slice 1 (n.map bf)]]) (fun res=>res = .d (.bool (decide (w=n)))):=by
 refine au _ Tryz.func148 rfl rfl (by kernel_rfl) ?_
 intro O w0 E0 β0
 have w1:=equalI_fn w n
 repeat' (first|refine z0 ?_|apply ag|apply ae|refine z16 ?_|apply ak|apply aa|refine z21 ?_ (hc:=by apply w1)|fail)
 exact db rfl rfl
set_option maxHeartbeats 8000000 in
theorem containsW_fn {f:FuncId} {caps:List SV} (p:List Int→Bool) (l:List (List Int)) (hcap:SV.lowL 0 caps=true) (hp:∀ x∈l,Fn f (elW x::caps) (fun r=>r = .d (.bool (p x)))):Fn 147 [.d (.slice 1 (l.map encW)),.fn f caps] (fun r=>r = .d (.bool (l.any p))):=by
 refine au _ Tryz.func147 rfl rfl (by kernel_rfl) ?_
 intro O w0 E0 β0
 have hx:=indexW_fn p l hcap hp
 have hlow:SV.lowL 0 [.d (.slice 1 (l.map encW)),.fn f caps]=true:=by simp [SV.lowL,SV.low,hcap]
 repeat' (first|refine z0 ?_|apply ag|apply ae|refine z16 ?_|apply ak|apply aa|refine z21 ?_ (hc:=by apply hx)|fail)
 exact db rfl (idxF_any p l)
set_option maxHeartbeats 8000000 in
theorem cway_fn (p:Prg) (l m:List Fct) (r:Rul) (n:List Int) (hS:Strict m) (hS2:m.length≤4398046511104) (hr:RulS m r) (hm:manyW m r=true) :
  Fn 109 [.pd (chkD p l m),elRul r,.d (.slice 1 (n.map bf))] (fun res=>res = .tup [.d (.slice 1 ((if (n.length:Int)=r.vars then rawW m r else []).map encW)),.d (.bool (decide ((n.length:Int)=r.vars) && (rawW m r).any fun w=>decide (w=n)))]):=by
 refine au _ Tryz.func109 rfl rfl (by kernel_rfl) ?_
 intro O w0 E0 β0
 have ln:(n.map bf).length=n.length:=List.length_map _
 have w1:=raw_fn m r hS hS2 hr
 rw [hm] at w1
 have w2:=containsW_fn (caps:=[.pd [.slice 1 (n.map bf)]]) (fun w=>decide (w=n)) (rawW m r) rfl (fun w _=>cway1_fn n w)
 by_cases hv:(n.length:Int)=r.vars
 ·rw [decide_eq_true hv,Bool.true_and,if_pos hv]
  repeat' ((fail_if_success (apply cv 4));(first|refine z0 ?_|apply ag|refine z5 ?_|refine z10 ?_|apply ae|refine z16 ?_|refine z20 ?_|apply ai|apply ak|apply aa|apply av|refine z22 ?_ (hc:=by apply w1)|refine z1 ?_|(refine z23 ?_ ?_ <;> intro hg)|fail))
  all_goals try (exfalso;omega)
  refine bl (ent_freezeL (ds:=[.slice 1 (n.map bf)]) 5 1 rfl rfl) ?_
  repeat' (first|refine z0 ?_|apply ag|apply ae|refine z16 ?_|apply ak|apply aa|refine z21 ?_ (hc:=by apply w2)|fail)
  exact⟨.inl rfl,_,rfl,rfl,rfl⟩
 ·rw [decide_eq_false hv,Bool.false_and,if_neg hv]
  repeat' (first|refine z0 ?_|apply ag|refine z5 ?_|apply ae|refine z16 ?_|refine z20 ?_|apply ai|apply aa|refine z1 ?_|(refine z23 ?_ ?_ <;> intro hg)|fail)
  all_goals try (exfalso;omega)
  refine bl (dc 6 1 rfl) ?_
  repeat' (first|apply ak|apply av)
  exact⟨.inl rfl,_,rfl,rfl,rfl⟩
def ruleStepB (r:Rul) (m:List Fct) (ahead:List Stp) (x:Stp):Bool :=
 (rawW m r).any (fun w=>decide (w=x.vars)) &&
  (if r.fold=0 then decide (c9 ⟨r.pred,aW r x.vars⟩ x.fact=0) && (r.body.filter kind1).all fun z=>hasS ahead (yesF x.vars z)
  else hasF (hdW m r) x.fact && decide (x.fact.args.take (r.terms.length - 1)=(aW r x.vars).take (r.terms.length - 1)))
def stepB (p:Prg) (l m:List Fct) (ahead:List Stp) (x:Stp):Bool :=
 if x.rule = -1 then hasF l x.fact && decide (x.vars.length=0)
 else if h:0≤x.rule∧x.rule.toNat < p.rules.length then ruleStepB (p.rules[x.rule.toNat]'h.2) m ahead x else false
structure RuleM (p:Prg) (m:List Fct) (r:Rul):Prop where
 ok:HeadOk p.arity r (rawW m r)
 s:RulS m r
 many:manyW m r=true
theorem ModelR.rule {p:Prg} {l m:List Fct} (hx:ModelR p l 0 m) {r:Rul} (hr:r∈p.rules):RuleM p m r:=by
 have ho:=mOk hx.ok0
 obtain⟨s1,s2,s3⟩:=hx.strict
 have hnd:m.Nodup:=s1.imp fun h he=>by subst he;exact lt_irrefl h
 have h1:=ho.pr.rul r hr
 obtain⟨g1,g2⟩:=ho.lvs r hr
 refine⟨raw_ok h1 ho.pr.ar s3 hnd,rulS_mk h1 ho.pr.ar s3,?_⟩
 exact (RunTo.heads ho.pr ho.fit ho.facts ho.len (ModelR.run hx.ok0 hx) hr g1 g2).1
theorem any_mem {ws:List (List Int)} {n:List Int} (h:(ws.any fun w=>decide (w=n))=true):n∈ws:=by
 obtain⟨w,hw,h⟩:=List.any_eq_true.1 h
 rwa [← of_decide_eq_true h]
abbrev isH (r:Rul) (ahead:List Stp) (x:Stp) (b:Bool):Hp:=[(4,.blk 48 [.d (.int .i64 r.pred),.d (.slice 1 ((aW r x.vars).map bf))]),(3,.blk 36 [.d (.int .i64 r.pred),.d (.slice 2 (r.terms.map bm)),.d (.int .i64 r.fold),.d (.slice 4 (r.body.map bp)),.d (.int .i64 r.vars)]),(2,.blk 4 [.d (.bool b)]),(1,.blk 81 [.d (.int .i64 x.fact.pred),.d (.slice 1 (x.fact.args.map bf)),.d (.int .i64 x.rule),.d (.slice 1 (x.vars.map bf))]),(0,.blk 72 [.d (.slice 4 (ahead.map bt))])]
set_option maxHeartbeats 8000000 in
theorem is_fn (p:Prg) (l m:List Fct) (ahead:List Stp) (x:Stp) (hx:ModelR p l 0 m) :
  Fn 73 [.pd (chkD p l m),.d (.slice 4 (ahead.map bt)),elStp x] (fun res=>res = .d (.bool (stepB p l m ahead x))):=by
 have ho:=mOk hx.ok0
 obtain⟨s1,s2,s3⟩:=hx.strict
 have hl60:=ho.len
 have hsl:=setF_lenle l
 refine au _ Tryz.func73 rfl rfl (by kernel_rfl) ?_
 intro O w0 E0 β0
 have lr:(p.rules.map co).length=p.rules.length:=List.length_map _
 have lv:(x.vars.map bf).length=x.vars.length:=List.length_map _
 have w1:=in_fn (b9 l) x.fact (by omega) (bw l).1
 rw [hasF_set] at w1
 by_cases h1:x.rule = -1
 ·have hst:stepB p l m ahead x=(hasF l x.fact && decide (x.vars.length=0)):=if_pos h1
  have hd:decide (((x.vars.map bf).length:Int)=0)=decide (x.vars.length=0):=by rw [lv];simp
  rw [hst,← hd]
  cases hb:hasF l x.fact with
  | true =>
   rw [hb] at w1
   rw [Bool.true_and]
   repeat' (first|refine z0 ?_|apply ag|refine z5 ?_|refine z14 ?_|refine z6 ?_|refine z7 ?_|refine z10 ?_|refine z11 ?_|apply ae|refine z16 ?_|refine z20 ?_|apply ai|apply ak|refine z18 ?_|apply aa|apply av|refine z22 ?_ (hc:=by apply w1)|refine z1 ?_|refine z3 ?_|(refine z23 ?_ ?_ <;> intro hg)|((fail_if_success (apply dt_known;exact rfl));apply c8;exact rfl;exact rfl;exact rfl;all_goals intro hg))
   all_goals try (exfalso;omega)
   all_goals exact⟨.inl rfl,_,rfl,rfl,rfl⟩
  | false =>
   rw [hb] at w1
   rw [Bool.false_and]
   repeat' (first|refine z0 ?_|apply ag|refine z5 ?_|refine z14 ?_|refine z6 ?_|refine z7 ?_|refine z10 ?_|refine z11 ?_|apply ae|refine z16 ?_|refine z20 ?_|apply ai|apply ak|refine z18 ?_|apply aa|apply av|refine z22 ?_ (hc:=by apply w1)|refine z1 ?_|refine z3 ?_|(refine z23 ?_ ?_ <;> intro hg)|((fail_if_success (apply dt_known;exact rfl));apply c8;exact rfl;exact rfl;exact rfl;all_goals intro hg))
   all_goals try (exfalso;omega)
   all_goals exact⟨.inl rfl,_,rfl,rfl,rfl⟩
 ·by_cases hr:0≤x.rule∧x.rule.toNat < p.rules.length
  ·have hst:stepB p l m ahead x=ruleStepB (p.rules[x.rule.toNat]'hr.2) m ahead x:=by unfold stepB;rw [if_neg h1,dif_pos hr]
   rw [hst]
   have hM:=hx.rule (List.getElem_mem hr.2)
   repeat' ((fail_if_success (apply cv 6));(first|refine z0 ?_|apply ag|refine z5 ?_|refine z14 ?_|refine z6 ?_|refine z7 ?_|refine z10 ?_|refine z11 ?_|apply ae|refine z16 ?_|refine z20 ?_|apply ai|apply ak|refine z18 ?_|apply aa|apply av|refine z22 ?_ (hc:=by apply w1)|refine z1 ?_|refine z3 ?_|(refine z23 ?_ ?_ <;> intro hg)|((fail_if_success (apply dt_known;exact rfl));apply c8;exact rfl;exact rfl;exact rfl;all_goals intro hg)|((fail_if_success (apply dt_known;exact rfl));apply dt_guard;exact rfl;exact rfl;exact rfl;all_goals intro hg)))
   all_goals try (exfalso;omega)
   generalize p.rules[x.rule.toNat]'hr.2=r at hM ⊢
   refine bl (aj (k':=4) (L':=[(0,.pd (chkD p l m)),(4,.loc 0 0),(5,.loc 1 0),(6,.loc 2 0),(7,.loc 3 0)]) (H':=[(3,.blk 36 [.d (.int .i64 r.pred),.d (.slice 2 (r.terms.map bm)),.d (.int .i64 r.fold),.d (.slice 4 (r.body.map bp)),.d (.int .i64 r.vars)]),(2,.blk 4 [.d (.bool false)]),(1,.blk 81 [.d (.int .i64 x.fact.pred),.d (.slice 1 (x.fact.args.map bf)),.d (.int .i64 x.rule),.d (.slice 1 (x.vars.map bf))]),(0,.blk 72 [.d (.slice 4 (ahead.map bt))])])
    (fun j=>match j with|3=>12|j=>j) ⟨rfl,rfl,rfl,rfl,rfl,trivial⟩ ⟨rfl,rfl,rfl,rfl,trivial⟩ rfl rfl rfl rfl rfl rfl) ?_
   have w2:=cway_fn p l m r x.vars s1 (by omega) hM.s hM.many
   by_cases hin:((rawW m r).any fun w=>decide (w=x.vars))=true
   rotate_left
   ·have hin:=Bool.eq_false_iff.2 hin
    have hrs:ruleStepB r m ahead x=false:=by unfold ruleStepB;rw [hin,Bool.false_and]
    rw [hrs]
    rw [hin,Bool.and_false] at w2
    repeat' (first|refine z0 ?_|apply ag|apply ae|refine z16 ?_|apply ak|refine z18 ?_|apply aa|apply av|refine z21 ?_ (hc:=by apply w2)|refine z3 ?_|fail)
    all_goals try (exfalso;omega)
    exact⟨.inl rfl,_,rfl,rfl,rfl⟩
   have hmem:=any_mem hin
   have hvl:(x.vars.length:Int)=r.vars:=by have:=hM.ok.len _ hmem;have:=hM.ok.rul.vars;omega
   rw [hin,Bool.and_true,decide_eq_true hvl,if_pos hvl] at w2
   have w3:=args_fn r.terms x.vars (hM.ok.terms hmem) (by have:=hM.ok.tlen;omega)
   repeat' ((fail_if_success (apply cv 10));(first|refine z0 ?_|apply ag|refine z5 ?_|refine z6 ?_|refine z7 ?_|refine z11 ?_|apply ae|refine z16 ?_|refine z20 ?_|apply ai|refine z19 ?_|apply aa|refine z21 ?_ (hc:=by apply w2)|refine z22 ?_ (hc:=by apply w3)|fail))
   all_goals try (exfalso;omega)
   refine bl (aj (k':=5) (L':=[(0,.pd (chkD p l m)),(4,.loc 0 0),(5,.loc 1 0),(6,.loc 2 0),(7,.loc 3 0),(8,.d (.slice 1 ((rawW m r).map encW))),(10,.loc 4 0)]) (H':=[(4,.blk 48 [.d (.int .i64 r.pred),.d (.slice 1 ((aW r x.vars).map bf))]),(3,.blk 36 [.d (.int .i64 r.pred),.d (.slice 2 (r.terms.map bm)),.d (.int .i64 r.fold),.d (.slice 4 (r.body.map bp)),.d (.int .i64 r.vars)]),(2,.blk 4 [.d (.bool false)]),(1,.blk 81 [.d (.int .i64 x.fact.pred),.d (.slice 1 (x.fact.args.map bf)),.d (.int .i64 x.rule),.d (.slice 1 (x.vars.map bf))]),(0,.blk 72 [.d (.slice 4 (ahead.map bt))])])
    (fun j=>match j with|4=>12|j=>j) ⟨rfl,rfl,rfl,rfl,rfl,rfl,rfl,trivial⟩ ⟨rfl,rfl,rfl,rfl,rfl,trivial⟩ rfl rfl rfl rfl rfl rfl) ?_
   clear w1 w2 w3
   by_cases hf:r.fold=0
   ·have w4:=orderF_fn ⟨r.pred,aW r x.vars⟩ x.fact
    have w5:=yes_fn r x.vars
    have hrs:ruleStepB r m ahead x=(decide (c9 ⟨r.pred,aW r x.vars⟩ x.fact=0) && (r.body.filter kind1).all fun z=>hasS ahead (yesF x.vars z)):=by unfold ruleStepB;rw [hin,Bool.true_and,if_pos hf]
    rw [hrs]
    by_cases ho0:c9 ⟨r.pred,aW r x.vars⟩ x.fact=0
    ·rw [decide_eq_true ho0,Bool.true_and]
     repeat' (first|refine z0 ?_|apply ag|refine z5 ?_|apply ae|refine z16 ?_|refine z20 ?_|apply ah|apply ai|apply ak|apply aa|apply av|refine z21 ?_ (hc:=by apply w4)|refine z21 ?_ (hc:=by apply w5)|refine z3 ?_|(refine z23 ?_ ?_ <;> intro hg)|fail)
     all_goals try (exfalso;omega)
     clear w4 w5
     obtain⟨ys,hys⟩:∃ ys,ys=r.body.filter kind1:=⟨_,rfl⟩
     rw [← hys]
     have hyl:(yesX r x.vars).length=ys.length:=by unfold yesX;rw [List.length_map,hys]
     refine dw_range (yesX r x.vars) rfl rfl (yes1_seq r x.vars fun z hz hk=>?_) (yesX_each r x.vars) (by simp) [(0,.pd (chkD p l m)),(4,.loc 0 0),(5,.loc 1 0),(6,.loc 2 0),(7,.loc 3 0),(10,.loc 4 0)] ⟨rfl,rfl,rfl,rfl,rfl,rfl,trivial⟩ rfl
      (ι:=Unit) (fun _ _=>(5,isH r ahead x false)) (fun j _=>((ys.take j).all fun z=>hasS ahead (yesF x.vars z))=true) () (by simp) rfl ?_ ?_
     ·have h:=(hM.s.ok.lit z hz).terms
      rw [show r.vars.toNat=x.vars.length by omega] at h
      exact⟨h,by have:=hM.s.ok.tlen z hz;omega⟩
     ·rintro j hj ⟨⟩ e1 O1 w1 E1 β1 l1
      have hj':j < ys.length:=by omega
      have hxj:(yesX r x.vars)[j]=[elFct (yesF x.vars ys[j])]:=by simp [yesX,hys]
      rw [hxj]
      have wm:=met_fn ahead (yesF x.vars ys[j])
      have hst1:((ys.take (j + 1)).all fun z=>hasS ahead (yesF x.vars z))=hasS ahead (yesF x.vars ys[j]):=by
       rw [List.take_succ_eq_append_getElem hj',List.all_append,e1];simp
      change DW _ _ _ _ ((104,elFct (yesF x.vars ys[j]))::_) _
      repeat' (first|apply ag|refine z16 ?_|refine z1 ?_|refine z3 ?_|fail)
      refine⟨rfl,fun O2 w2 E2 β2=>?_⟩
      cases hb:hasS ahead (yesF x.vars ys[j]) with
      | true =>
       rw [hb] at wm hst1
       repeat' (first|refine z0 ?_|apply ag|apply ae|refine z16 ?_|apply ah|apply ai|refine z19 ?_|apply aa|apply aw|refine z21 ?_ (hc:=by apply wm)|fail)
       all_goals try (exfalso;omega)
       exact⟨(),hst1,aj id trivial ⟨rfl,rfl,rfl,rfl,rfl,trivial⟩ rfl rfl rfl rfl rfl rfl⟩
      | false =>
       rw [hb] at wm
       have hall:(ys.all fun z=>hasS ahead (yesF x.vars z))=false:=List.all_eq_false.2 ⟨_,List.getElem_mem hj',by rw [hb];simp⟩
       rw [hall]
       repeat' (first|refine z0 ?_|apply ag|apply ae|refine z16 ?_|apply ah|apply ak|refine z18 ?_|apply aa|apply bq|refine z21 ?_ (hc:=by apply wm)|refine z3 ?_|fail)
       all_goals try (exfalso;omega)
       refine⟨5,isH r ahead x false,aj id trivial ⟨rfl,rfl,rfl,rfl,rfl,trivial⟩ rfl rfl rfl rfl rfl rfl,?_⟩
       repeat' (first|apply av|apply bq)
       exact⟨.inl rfl,_,rfl,rfl,rfl⟩
     ·rintro⟨⟩ e1
      rw [hyl,List.take_of_length_le (Nat.le_refl _)] at e1
      rw [e1]
      repeat' (first|apply ag|apply ae|refine z16 ?_|apply ak|apply aa|apply aw|refine z3 ?_|fail)
      all_goals try (exfalso;omega)
      exact⟨.inl rfl,_,rfl,rfl,rfl⟩
    ·rw [decide_eq_false ho0,Bool.false_and]
     repeat' (first|refine z0 ?_|apply ag|refine z5 ?_|apply ae|refine z16 ?_|refine z20 ?_|apply ah|apply ai|apply ak|apply aa|apply av|refine z21 ?_ (hc:=by apply w4)|refine z21 ?_ (hc:=by apply w5)|refine z3 ?_|(refine z23 ?_ ?_ <;> intro hg)|fail)
     all_goals try (exfalso;omega)
     exact⟨.inl rfl,_,rfl,rfl,rfl⟩
   ·obtain⟨g1,g2⟩:=hM.ok.rul.folded hf
    have w4:=made_fn p.arity r (rawW m r) hM.ok
    have hl:(hdW m r).length≤2000:=by
     refine Nat.le_trans (setF_lenle _) ?_
     rw [headsD_eq]
     exact Nat.le_trans (List.length_filterMap_le _ _) hM.ok.many
    have w5:=in_fn (hdW m r) x.fact (by omega) (bw _).1
    have w6:=equalI_fn (x.fact.args.take (r.terms.length - 1)) ((aW r x.vars).take (r.terms.length - 1))
    rw [show b9 (headsD r (rawW m r))=hdW m r from rfl] at w4
    have hrs:ruleStepB r m ahead x=(hasF (hdW m r) x.fact && decide (x.fact.args.take (r.terms.length - 1)=(aW r x.vars).take (r.terms.length - 1))):=by unfold ruleStepB;rw [hin,Bool.true_and,if_neg hf]
    rw [hrs]
    have lt:(r.terms.map bm).length=r.terms.length:=List.length_map _
    have la:((aW r x.vars).map bf).length=(aW r x.vars).length:=List.length_map _
    have la2:=aW_len r x.vars
    have lf:(x.fact.args.map bf).length=x.fact.args.length:=List.length_map _
    have ht3:=hM.ok.tlen
    obtain⟨last,hlast⟩:∃ last,last=r.terms.length - 1:=⟨_,rfl⟩
    rw [← hlast] at w6 ⊢
    have hl1:((r.terms.map bm).length:Int) - 1=(last:Int):=by omega
    repeat' ((fail_if_success (apply cv 12));(first|refine z0 ?_|apply ag|apply ae|refine z16 ?_|apply ai|apply aa|(refine z23 ?_ ?_ <;> intro hg)|fail))
    all_goals try (exfalso;omega)
    refine bl (aj (k':=5) (L':=[(0,.pd (chkD p l m)),(4,.loc 0 0),(5,.loc 1 0),(6,.loc 2 0),(7,.loc 3 0),(8,.d (.slice 1 ((rawW m r).map encW))),(10,.loc 4 0),(11,.d (.int .i64 last))]) (H':=isH r ahead x false) id ⟨rfl,rfl,rfl,rfl,rfl,rfl,rfl,by rw [← hl1];rfl,trivial⟩ ⟨rfl,rfl,rfl,rfl,rfl,trivial⟩ rfl rfl rfl rfl rfl rfl) ?_
    have hat:hasF (hdW m r) x.fact=true→x.fact.args.length=r.terms.length:=fun h=>(head_way (((bw _).2 _).1 (hasF_iff.1 h)) (fun _=>g1)).1
    cases hb:hasF (hdW m r) x.fact with
    | true =>
     have hat:=hat hb
     rw [hb] at w5
     rw [Bool.true_and]
     repeat' (first|refine z5 ?_|refine z6 ?_|refine z10 ?_|apply ae|refine z20 ?_|apply ak|apply aa|apply av|refine z22 ?_ (hc:=by apply w4)|refine z22 ?_ (hc:=by apply w5)|refine z22 ?_ (hc:=by apply w6)|fail)
     all_goals try (exfalso;omega)
     all_goals exact⟨.inl rfl,_,rfl,rfl,rfl⟩
    | false =>
     rw [hb] at w5
     rw [Bool.false_and]
     repeat' (first|refine z5 ?_|refine z14 ?_|refine z6 ?_|refine z10 ?_|apply ae|refine z20 ?_|apply ak|apply aa|apply av|refine z22 ?_ (hc:=by apply w4)|refine z22 ?_ (hc:=by apply w5)|fail)
     all_goals try (exfalso;omega)
     all_goals exact⟨.inl rfl,_,rfl,rfl,rfl⟩
  ·have hst:stepB p l m ahead x=false:=by unfold stepB;rw [if_neg h1,dif_neg hr]
   rw [hst]
   repeat' (first|refine z0 ?_|apply ag|refine z5 ?_|refine z14 ?_|refine z6 ?_|refine z7 ?_|refine z10 ?_|refine z11 ?_|apply ae|refine z16 ?_|refine z20 ?_|apply ai|apply ak|refine z18 ?_|apply aa|apply av|refine z1 ?_|refine z3 ?_|(refine z23 ?_ ?_ <;> intro hg)|((fail_if_success (apply dt_known;exact rfl));apply c8;exact rfl;exact rfl;exact rfl;all_goals intro hg))
   all_goals try (exfalso;omega)
   all_goals exact⟨.inl rfl,_,rfl,rfl,rfl⟩
def stepAt (p:Prg) (l m:List Fct) (xs:List Stp) (i:Nat):Bool:=match xs[i]? with
 | some x=>stepB p l m (xs.take i) x
 | none=>true
def stepsB (p:Prg) (l m:List Fct) (xs:List Stp) (n:Nat):Bool:=(List.range n).all (stepAt p l m xs)
def proofB (p:Prg) (l m:List Fct) (xs:List Stp):Bool:=decide (0 < xs.length) && stepsB p l m xs xs.length
theorem stepsB_succ (p:Prg) (l m:List Fct) (xs:List Stp) {i:Nat} (hi:i < xs.length):stepsB p l m xs (i + 1)=(stepsB p l m xs i && stepB p l m (xs.take i) xs[i]):=by
 unfold stepsB
 rw [List.range_succ,List.all_append]
 congr 1
 simp [stepAt,List.getElem?_eq_getElem hi]
theorem stepsB_false (p:Prg) (l m:List Fct) (xs:List Stp) {i:Nat} (hi:i < xs.length) (h:stepB p l m (xs.take i) xs[i]=false):stepsB p l m xs xs.length=false:=by
 unfold stepsB
 exact List.all_eq_false.2 ⟨i,List.mem_range.2 hi,by simp [stepAt,List.getElem?_eq_getElem hi,h]⟩
def whyE (e:Int) (xs:List Stp):Int:=if e=0∧200 < xs.length then 2 else e
set_option maxHeartbeats 8000000 in
theorem wcheck_fn (p:Prg) (l:List Fct) (xs:List Stp) (e:Int) (m:List Fct) (hx:ModelR p l e m) :
  Fn 37 [elPrg p,.d (.slice 2 (l.map ay)),.d (.slice 4 (xs.map bt))] (fun r=>r = .tup [.d (.bool (decide (whyE e xs=0) && proofB p l m xs)),.d (.int .i64 (whyE e xs))]):=by
 refine au _ Tryz.func37 rfl rfl (by kernel_rfl) ?_
 intro O w0 E0 β0
 have w1:=model_fn p l e m hx
 have lx:(xs.map bt).length=xs.length:=List.length_map _
 refine da (t:=2) rfl fun hb=>?_
 by_cases he:e=0
 ·subst he
  by_cases hl:200 < xs.length
  ·have hw:whyE 0 xs=2:=if_pos ⟨rfl,hl⟩
   rw [hw]
   repeat' (first|refine z0 ?_|apply ag|refine z5 ?_|apply ae|refine z16 ?_|refine z20 ?_|apply ai|apply ak|refine z19 ?_|apply aa|apply av|refine z21 ?_ (hc:=by apply w1)|refine z1 ?_|(refine z23 ?_ ?_ <;> intro hg)|fail)
   all_goals try (exfalso;omega)
   exact⟨.inl rfl,_,rfl,rfl,rfl⟩
  ·have hw:whyE 0 xs=0:=if_neg (fun h=>hl h.2)
   rw [hw,decide_eq_true rfl,Bool.true_and]
   have ho:=mOk hx.ok0
   obtain⟨s1,s2,s3⟩:=hx.strict
   have hl60:=ho.len
   have w2:=set_fn l (by omega) (fun x hx=>by have:=fct_len ho.pr (ho.facts x hx);omega)
   repeat' ((fail_if_success (apply cv 7));(first|refine z0 ?_|apply ag|refine z5 ?_|refine z7 ?_|refine z11 ?_|apply ae|refine z16 ?_|refine z20 ?_|apply ai|apply ak|refine z19 ?_|apply aa|apply av|refine z21 ?_ (hc:=by apply w1)|refine z22 ?_ (hc:=by apply w2)|refine z1 ?_|(refine z23 ?_ ?_ <;> intro hg)|fail))
   all_goals try (exfalso;omega)
   refine bl (ent_freezeL (ds:=chkD p l m) 10 6 rfl rfl) ?_
   clear w1 w2
   repeat' (first|refine z0 ?_|apply ag|apply ae|refine z16 ?_|apply ah|apply aa)
   refine bh (ι:=Nat) (fun i=>⟨0,[(2,.d (.slice 4 (xs.map bt))),(10,.pd (chkD p l m)),(31,.d (.slice 4 (xs.map bt))),(32,.d (.int .i64 xs.length)),(33,.d (.int .i64 i))],[]⟩)
    (fun i=>i≤xs.length∧stepsB p l m xs i=true) (fun i=>xs.length - i) 0 ⟨Nat.zero_le _,rfl⟩ (aj id ⟨rfl,rfl,rfl,by rw [← lx];rfl,rfl,trivial⟩ trivial rfl rfl rfl rfl rfl rfl) ?_
   rintro i ⟨g1,g2⟩
   dsimp only at g1 g2 ⊢
   by_cases hi:i < xs.length
   ·have w3:=is_fn p l m (xs.take i) xs[i] hx
    have hs:=stepsB_succ p l m xs hi
    rw [g2,Bool.true_and] at hs
    have hpf:proofB p l m xs=stepsB p l m xs xs.length:=by unfold proofB;rw [decide_eq_true (by omega),Bool.true_and]
    cases hbb:stepB p l m (xs.take i) xs[i] with
    | true =>
     rw [hbb] at w3 hs
     repeat' (first|refine z0 ?_|apply ag|refine z5 ?_|refine z10 ?_|apply ae|refine z16 ?_|refine z20 ?_|apply ah|apply ai|apply aq|apply ak|refine z19 ?_|apply aa|apply ap|apply aw|refine z17 ?_|refine z22 ?_ (hc:=by apply w3)|refine z1 ?_|refine z3 ?_|(refine z23 ?_ ?_ <;> intro hg)|fail)
     all_goals try (exfalso;omega)
     exact⟨i + 1,⟨hi,hs⟩,aj id ⟨rfl,rfl,rfl,rfl,rfl,trivial⟩ trivial rfl rfl rfl rfl rfl rfl,by omega⟩
    | false =>
     rw [hbb] at w3
     rw [hpf,stepsB_false p l m xs hi hbb]
     repeat' (first|refine z0 ?_|apply ag|refine z5 ?_|refine z10 ?_|apply ae|refine z16 ?_|refine z20 ?_|apply ah|apply ai|apply aq|apply ak|refine z18 ?_|apply aa|apply ap|apply av|apply bq|refine z17 ?_|refine z22 ?_ (hc:=by apply w3)|refine z1 ?_|refine z3 ?_|(refine z23 ?_ ?_ <;> intro hg)|fail)
     all_goals try (exfalso;omega)
     exact⟨.inl rfl,_,rfl,rfl,rfl⟩
   ·have hin:i=xs.length:=by omega
    rw [hin] at g2
    have hpf:proofB p l m xs=decide (((xs.map bt).length:Int) > 0):=by
     unfold proofB
     rw [g2,Bool.and_true,lx]
     exact decide_eq_decide.2 (by omega)
    rw [hpf]
    repeat' (first|refine z0 ?_|apply ag|refine z5 ?_|apply ae|refine z16 ?_|refine z20 ?_|apply ah|apply ai|apply aq|apply ak|apply aa|apply ap|refine z17 ?_|refine z1 ?_|refine z3 ?_|(refine z23 ?_ ?_ <;> intro hg)|fail)
    all_goals try (exfalso;omega)
    exact⟨.inl rfl,_,rfl,rfl,rfl⟩
 ·have hw:whyE e xs=e:=if_neg (fun h=>he h.1)
  rw [hw,decide_eq_false he,Bool.false_and]
  repeat' (first|refine z0 ?_|apply ag|refine z5 ?_|apply ae|refine z16 ?_|refine z20 ?_|apply ai|apply ak|apply aa|apply av|refine z21 ?_ (hc:=by apply w1)|refine z1 ?_|(refine z23 ?_ ?_ <;> intro hg)|fail)
  all_goals try (exfalso;omega)
  exact⟨.inl rfl,_,rfl,rfl,rfl⟩
end Go.Proofs.YtapciiffpnociacGreat
