/- Several texts in one: RuA RuQ RuB RuR RuC RuD RuE RuG RuK RuS RuT LstS. Condition: none. -/
import Derived.Test.YtapciiffpnociadGreatW12
import Derived.Test.YtapciiffpnociadGreatW09
namespace Go.Proofs.YtapciiffpnociadGreat
open Go Go.RowKit
theorem numB_iff {n:Int}:numB n=true↔-1000000≤n∧n≤1000000:=by unfold numB inR;simp
attribute [local irreducible] DW DS DL DQ Ev FnOk FnP thenD inBlockD DT
def needT (l:Ltl):List Trm:=if l.kind=4 then l.terms.take 2 else l.terms
def rdyL (e:RE) (l:Ltl):Bool:=(needT l).all fun t=>(vOf e t).isSome
def nextE (e:RE) (left:List Ltl):Nat:=if left.findIdx (rdyL e) < left.length then left.findIdx (rdyL e) else left.findIdx fun l=>decide (l.kind=1)
def litW (S:List Fct) (go:RE→List (List Int)) (l:Ltl) (e:RE):List (List Int) :=
 if l.kind=1 then S.flatMap fun x=>if x.pred=l.pred then (match matchE e l.terms x.args with|some e'=>go e'|none=>[]) else []
 else if l.kind=4 then (if numB (calcL l (outE e)) then (match matchE e (l.terms.drop 2) [calcL l (outE e)] with|some e'=>go e'|none=>[]) else [])
 else if holdE S l (outE e) then go e else []
def findE (S:List Fct):Nat→List Ltl→RE→List (List Int)
 | _,[],e=>[outE e]
 | 0,_::_,_=>[]
 | k + 1,l0::ls,e=>match (l0::ls)[nextE e (l0::ls)]? with
  | none=>[]
  | some l=>litW S (findE S k ((l0::ls).eraseIdx (nextE e (l0::ls)))) l e
theorem mem_erase {α:Type} {l:List α} {i:Nat} (h:i < l.length) (x:α):x∈l↔x=l[i]∨x∈l.eraseIdx i:=by
 rw [List.mem_eraseIdx_iff_getElem]
 constructor
 ·intro hx
  obtain⟨j,hj,rfl⟩:=List.mem_iff_getElem.1 hx
  by_cases hq:j=i
  ·subst hq;exact .inl rfl
  ·exact .inr ⟨j,hj,hq,rfl⟩
 ·rintro (rfl|⟨j,hj,_,rfl⟩)
  ·exact List.getElem_mem h
  ·exact List.getElem_mem hj
theorem next_lt {S:List Fct} {e:RE} {left:List Ltl} (h0:left≠[]) (hok:∀ l∈left,okL S e.length l) (hB:Bd left (hasE e)):nextE e left < left.length:=by
 unfold nextE
 split
 ·assumption
 ·rename_i h1
  refine List.findIdx_lt_length_of_exists ?_
  apply Classical.byContradiction
  intro h2
  have h1':∀ l∈left,rdyL e l=false:=by
   intro l hl
   cases h:rdyL e l with
   | false=>rfl
   | true=>exact absurd (List.findIdx_lt_length_of_exists ⟨l,hl,h⟩) h1
  have hcl:closedB left (hasE e):=by
   intro l hl hf
   exfalso
   unfold firesB at hf
   rw [Bool.or_eq_true,Bool.and_eq_true] at hf
   rcases hf with hf|⟨hf,hg⟩
   ·exact h2 ⟨l,hl,hf⟩
   ·have:=h1' l hl
    unfold rdyL needT at this
    rw [if_pos (of_decide_eq_true hf)] at this
    have hg':(l.terms.take 2).all (fun t=>(vOf e t).isSome)=true:=by
     rw [List.all_eq_true] at hg ⊢
     intro t ht
     rw [← isT_hasE];exact hg t ht
    rw [hg'] at this;cases this
  have hfull:=hB _ (leB.refl _) hcl
  obtain⟨l,hl⟩:=List.exists_mem_of_ne_nil left h0
  have:=h1' l hl
  unfold rdyL at this
  have hall:(needT l).all (fun t=>(vOf e t).isSome)=true:=by
   rw [List.all_eq_true]
   intro t ht
   refine full_some hfull ((hok l hl).terms t ?_)
   unfold needT at ht
   split at ht
   ·exact List.mem_of_mem_take ht
   ·exact ht
  rw [hall] at this;cases this
theorem next_is {e:RE} {left:List Ltl} (h:nextE e left < left.length):rdyL e (left[nextE e left])=true∨(left[nextE e left]).kind=1:=by
 unfold nextE at h ⊢
 split
 ·left;exact List.findIdx_getElem
 ·rename_i h1
  rw [if_neg h1] at h
  right
  have:=List.findIdx_getElem (xs:=left) (p:=fun l=>decide (l.kind=1)) (w:=h)
  exact of_decide_eq_true this
theorem Bd_rest {left:List Ltl} {i:Nat} (hi:i < left.length) {bs cs:List Bool} (hB:Bd left bs) (hle:leB bs cs) (hd:(∀ t∈litTs left[i],isT cs t=true)∨∀ ds,firesB ds left[i]=false):Bd (left.eraseIdx i) cs:=by
 intro ds h1 h2
 refine hB ds (hle.trans h1) fun l hl hf t ht=>?_
 rcases (mem_erase hi l).1 hl with rfl|hl
 ·rcases hd with hd|hd
  ·exact isT_mono h1 (hd t ht)
  ·rw [hd ds] at hf;cases hf
 ·exact h2 l hl hf t ht
theorem holdE_calc {S:List Fct} {l:Ltl} {a:List Int} (h4:l.kind=4) (h3:l.terms.length=3):holdE S l a=true↔numB (calcL l a)=true∧(l.terms.drop 2).map (vA a)=[calcL l a]:=by
 unfold holdE
 rw [if_neg (by omega),if_neg (by omega),if_neg (by omega),Bool.and_eq_true,decide_eq_true_eq]
 match hl:l.terms,h3 with
 | [t1,t2,t3],_ =>
  simp only [List.map_cons,List.map_nil,List.drop_succ_cons,List.drop_zero,List.getD_cons_succ,List.getD_cons_zero,List.cons.injEq,and_true]
  exact and_congr Iff.rfl eq_comm
theorem calcL_same {l:Ltl} {e:RE} {a:List Int} (h:extE e a) (h3:l.terms.length=3) (hr:∀ t∈l.terms.take 2,(vOf e t).isSome=true):calcL l a=calcL l (outE e):=by
 unfold calcL
 match hl:l.terms,h3 with
 | [t1,t2,t3],_ =>
  rw [hl] at hr
  simp only [List.map_cons,List.getD_cons_zero,List.getD_cons_succ]
  rw [vA_same h (hr t1 (by simp)),vA_same h (hr t2 (by simp))]
theorem litW_mem {S:List Fct} {go:RE→List (List Int)} {l:Ltl} {e:RE} (hok:okL S e.length l) (hr:rdyL e l=true∨l.kind=1) (a:List Int) {P:List Int→Prop}
  (hgo:∀ e',e'.length=e.length→leB (hasE e) (hasE e')→((∀ t∈litTs l,isT (hasE e') t=true)∨∀ ds,firesB ds l=false)→(a∈go e'↔extE e' a∧P a)) :
  a∈litW S go l e↔(extE e a∧holdE S l a=true)∧P a:=by
 unfold litW
 by_cases h1:l.kind=1
 ·rw [if_pos h1,List.mem_flatMap]
  have hlit:litTs l=l.terms:=by unfold litTs;rw [if_pos h1]
  have hho:holdE S l a=true↔(⟨l.pred,l.terms.map (vA a)⟩:Fct)∈S:=by unfold holdE;rw [if_pos h1,hasF_iff]
  constructor
  ·rintro⟨x,hx,ha⟩
   split at ha
   ·rename_i hp
    have hlen:=(hok.facts h1 x hx hp).symm
    split at ha
    ·rename_i e' he'
     obtain⟨g1,g2,g3⟩:=matchE_some hlen hok.terms he'
     have g4:=(hgo e' g1 (by rw [g3];exact setTs_le _ _) (.inl (by rw [hlit,g3];exact setTs_is (by rw [hasE_len];exact hok.terms)))).1 ha
     obtain⟨g5,g6⟩:=(g2 a).1 g4.1
     refine⟨⟨g5,hho.2 ?_⟩,g4.2⟩
     rw [g6,← hp];exact hx
    ·simp at ha
   ·simp at ha
  ·rintro⟨⟨ha,hh⟩,hP⟩
   refine⟨_,hho.1 hh,?_⟩
   rw [if_pos rfl]
   have hlen:l.terms.length=(l.terms.map (vA a)).length:=(List.length_map _).symm
   cases he':matchE e l.terms (l.terms.map (vA a)) with
   | none=>exact absurd rfl (matchE_none hlen hok.terms he' a ha)
   | some e' =>
    obtain⟨g1,g2,g3⟩:=matchE_some hlen hok.terms he'
    exact (hgo e' g1 (by rw [g3];exact setTs_le _ _) (.inl (by rw [hlit,g3];exact setTs_is (by rw [hasE_len];exact hok.terms)))).2 ⟨(g2 a).2 ⟨ha,rfl⟩,hP⟩
 ·rw [if_neg h1]
  have hr:=hr.resolve_right h1
  unfold rdyL needT at hr
  by_cases h4:l.kind=4
  ·rw [if_pos h4] at hr ⊢
   have h3:=hok.calc3 h4
   have hr':∀ t∈l.terms.take 2,(vOf e t).isSome=true:=List.all_eq_true.1 hr
   have hdl:(l.terms.drop 2).length=[calcL l (outE e)].length:=by rw [List.length_drop,h3];rfl
   have hdo:∀ t∈l.terms.drop 2,okT e.length t:=fun t ht=>hok.terms t (List.mem_of_mem_drop ht)
   have hlit:litTs l=l.terms.drop 2:=by unfold litTs;rw [if_neg h1]
   rw [holdE_calc h4 h3]
   constructor
   ·intro ha
    split at ha
    ·rename_i hn
     split at ha
     ·rename_i e' he'
      obtain⟨g1,g2,g3⟩:=matchE_some hdl hdo he'
      have g4:=(hgo e' g1 (by rw [g3];exact setTs_le _ _) (.inl (by rw [hlit,g3];exact setTs_is (by rw [hasE_len];exact hdo)))).1 ha
      obtain⟨g5,g6⟩:=(g2 a).1 g4.1
      rw [calcL_same g5 h3 hr']
      exact⟨⟨g5,hn,g6⟩,g4.2⟩
     ·simp at ha
    ·simp at ha
   ·rintro⟨⟨ha,hn,hm⟩,hP⟩
    rw [calcL_same ha h3 hr'] at hn hm
    rw [if_pos hn]
    cases he':matchE e (l.terms.drop 2) [calcL l (outE e)] with
    | none=>exact absurd hm (matchE_none hdl hdo he' a ha)
    | some e' =>
     obtain⟨g1,g2,g3⟩:=matchE_some hdl hdo he'
     exact (hgo e' g1 (by rw [g3];exact setTs_le _ _) (.inl (by rw [hlit,g3];exact setTs_is (by rw [hasE_len];exact hdo)))).2 ⟨(g2 a).2 ⟨ha,hm⟩,hP⟩
  ·rw [if_neg h4] at hr ⊢
   have hr':∀ t∈l.terms,(vOf e t).isSome=true:=List.all_eq_true.1 hr
   have hnf:∀ ds,firesB ds l=false:=fun ds=>by unfold firesB;rw [decide_eq_false h1,decide_eq_false h4];rfl
   have hg:=hgo e rfl (leB.refl _) (.inr hnf)
   constructor
   ·intro ha
    split at ha
    ·rename_i hh
     obtain⟨g1,g2⟩:=hg.1 ha
     exact⟨⟨g1,by rw [holdE_same g1 hr'];exact hh⟩,g2⟩
    ·simp at ha
   ·rintro⟨⟨ha,hh⟩,hP⟩
    rw [if_pos (by rw [← holdE_same ha hr'];exact hh)]
    exact hg.2 ⟨ha,hP⟩
theorem findE_mem (S:List Fct):∀ (k:Nat) (left:List Ltl) (e:RE),left.length≤k→(∀ l∈left,okL S e.length l)→Bd left (hasE e)→∀ a,a∈findE S k left e↔extE e a∧∀ l∈left,holdE S l a=true
 | k,[],e,_,_,hB,a=>by
  have h:findE S k [] e=[outE e]:=by cases k <;> rfl
  rw [h,List.mem_singleton,full_out (hB _ (leB.refl _) (by intro l hl;simp at hl))]
  simp
 | 0,_::_,_,hk,_,_,_=>by simp at hk
 | k + 1,l0::ls,e,hk,hok,hB,a=>by
  have hlt:=next_lt (by simp) hok hB
  have hnx:=next_is hlt
  rw [findE]
  generalize hi:nextE e (l0::ls)=i at hlt hnx
  rw [List.getElem?_eq_getElem hlt]
  generalize hL:l0::ls=left at *
  have hlen:(left.eraseIdx i).length≤k:=by rw [List.length_eraseIdx,if_pos hlt];omega
  have hsub:∀ l∈left.eraseIdx i,l∈left:=fun l hl=>(mem_erase hlt l).2 (.inr hl)
  simp only
  rw [litW_mem (P:=fun a=>∀ l∈left.eraseIdx i,holdE S l a=true) (hok _ (List.getElem_mem hlt)) hnx a fun e' g1 g2 g3=>findE_mem S k (left.eraseIdx i) e' hlen (fun l hl=>by rw [g1];exact hok l (hsub l hl)) (Bd_rest hlt hB g2 g3) a]
  constructor
  ·rintro⟨⟨g1,g2⟩,g3⟩
   exact⟨g1,fun l hl=>((mem_erase hlt l).1 hl).elim (fun h=>h▸g2) (g3 l)⟩
  ·rintro⟨g1,g2⟩
   exact⟨⟨g1,g2 _ (List.getElem_mem hlt)⟩,fun l hl=>g2 l (hsub l hl)⟩
theorem litW_nodup {S:List Fct} {go:RE→List (List Int)} {l:Ltl} {e:RE} (hS:S.Nodup) (hok:okL S e.length l) (hgo:∀ e',e'.length=e.length→leB (hasE e) (hasE e')→((∀ t∈litTs l,isT (hasE e') t=true)∨∀ ds,firesB ds l=false)→(go e').Nodup∧∀ a∈go e',extE e' a):(litW S go l e).Nodup:=by
 unfold litW
 by_cases h1:l.kind=1
 ·rw [if_pos h1]
  have hlit:litTs l=l.terms:=by unfold litTs;rw [if_pos h1]
  have key:∀ x∈S,x.pred=l.pred→∀ e',matchE e l.terms x.args=some e'→(go e').Nodup∧∀ a∈go e',l.terms.map (vA a)=x.args:=by
   intro x hx hp e' he'
   obtain⟨g1,g2,g3⟩:=matchE_some (hok.facts h1 x hx hp).symm hok.terms he'
   obtain⟨g4,g5⟩:=hgo e' g1 (by rw [g3];exact setTs_le _ _) (.inl (by rw [hlit,g3];exact setTs_is (by rw [hasE_len];exact hok.terms)))
   exact⟨g4,fun a ha=>((g2 a).1 (g5 a ha)).2⟩
  refine List.pairwise_flatMap.2 ⟨fun x hx=>?_,hS.imp_of_mem fun {x y} hx hy hne u hu v hv=>?_⟩
  ·split
   ·rename_i hp
    split
    ·rename_i e' he';exact (key x hx hp e' he').1
    ·exact .nil
   ·exact .nil
  ·rintro rfl
   split at hu
   ·rename_i hp
    split at hu
    ·rename_i e' he'
     split at hv
     ·rename_i hq
      split at hv
      ·rename_i f' hf'
       have g1:=(key x hx hp e' he').2 u hu
       have g2:=(key y hy hq f' hf').2 u hv
       apply hne
       obtain⟨xp,xa⟩:=x
       obtain⟨yp,ya⟩:=y
       simp only at hp hq g1 g2
       rw [hp,hq,← g1,← g2]
      ·simp at hv
     ·simp at hv
    ·simp at hu
   ·simp at hu
 ·rw [if_neg h1]
  by_cases h4:l.kind=4
  ·rw [if_pos h4]
   have h3:=hok.calc3 h4
   have hdl:(l.terms.drop 2).length=[calcL l (outE e)].length:=by rw [List.length_drop,h3];rfl
   have hdo:∀ t∈l.terms.drop 2,okT e.length t:=fun t ht=>hok.terms t (List.mem_of_mem_drop ht)
   have hlit:litTs l=l.terms.drop 2:=by unfold litTs;rw [if_neg h1]
   split
   ·split
    ·rename_i e' he'
     obtain⟨g1,g2,g3⟩:=matchE_some hdl hdo he'
     exact (hgo e' g1 (by rw [g3];exact setTs_le _ _) (.inl (by rw [hlit,g3];exact setTs_is (by rw [hasE_len];exact hdo)))).1
    ·exact .nil
   ·exact .nil
  ·rw [if_neg h4]
   have hnf:∀ ds,firesB ds l=false:=fun ds=>by unfold firesB;rw [decide_eq_false h1,decide_eq_false h4];rfl
   split
   ·exact (hgo e rfl (leB.refl _) (.inr hnf)).1
   ·exact .nil
theorem findE_nodup (S:List Fct) (hS:S.Nodup):∀ (k:Nat) (left:List Ltl) (e:RE),left.length≤k→(∀ l∈left,okL S e.length l)→Bd left (hasE e)→(findE S k left e).Nodup
 | k,[],e,_,_,_=>by
  have h:findE S k [] e=[outE e]:=by cases k <;> rfl
  rw [h];exact List.nodup_cons.2 ⟨by simp,.nil⟩
 | 0,_::_,_,hk,_,_=>by simp at hk
 | k + 1,l0::ls,e,hk,hok,hB=>by
  have hlt:=next_lt (by simp) hok hB
  rw [findE]
  generalize hi:nextE e (l0::ls)=i at hlt
  rw [List.getElem?_eq_getElem hlt]
  generalize hL:l0::ls=left at *
  have hlen:(left.eraseIdx i).length≤k:=by rw [List.length_eraseIdx,if_pos hlt];omega
  have hsub:∀ l∈left.eraseIdx i,l∈left:=fun l hl=>(mem_erase hlt l).2 (.inr hl)
  exact litW_nodup hS (hok _ (List.getElem_mem hlt)) fun e' g1 g2 g3=>⟨findE_nodup S hS k _ e' hlen (fun l hl=>by rw [g1];exact hok l (hsub l hl)) (Bd_rest hlt hB g2 g3),
   fun a ha=>((findE_mem S k _ e' hlen (fun l hl=>by rw [g1];exact hok l (hsub l hl)) (Bd_rest hlt hB g2 g3) a).1 ha).1⟩

def recL (e:RE) (l:Ltl):Option RE :=
 if l.kind=4∧(l.terms.take 2).all (fun t=>(vOf e t).isSome)=true∧(l.terms.drop 2).all (fun t=>(vOf e t).isSome)=false then
  (if numB (calcL l (outE e)) then some ((l.terms.drop 2).foldl (fun e t=>e.set t.var.toNat (some (calcL l (outE e)))) e) else none)
 else some e
def recP (body:List Ltl) (e:RE):Option RE:=body.foldlM recL e
def recN (body:List Ltl):Nat→RE→Option RE
 | 0,e=>some e
 | n + 1,e=>(recP body e).bind (recN body n)
def wrongE (S:List Fct) (body:List Ltl) (e:RE):Bool:=body.any fun l=>l.terms.all (fun t=>(vOf e t).isSome) && !holdE S l (outE e)
def fromE (S:List Fct) (body:List Ltl):List Ltl→RE→List (List Int)
 | [],e=>match recN body (body.length + 1) e with
  | none=>[]
  | some e'=>if wrongE S body e' then [] else [outE e']
 | l::ys,e=>match recN body (body.length + 1) e with
  | none=>[]
  | some e'=>if wrongE S body e' then [] else litW S (fromE S body ys) l e'
theorem drop2 {l:Ltl} (h3:l.terms.length=3):∃ t1 t2 t3,l.terms=[t1,t2,t3]:=by
 match h:l.terms,h3 with
 | [t1,t2,t3],_=>exact⟨t1,t2,t3,rfl⟩
theorem recL_some {S:List Fct} {e e':RE} {l:Ltl} (hok:okL S e.length l) (h:recL e l=some e') :
  e'.length=e.length∧(∀ a,holdE S l a=true→(extE e' a↔extE e a))∧hasE e' = (if l.kind=4 then bLit (hasE e) l else hasE e)∧∀ a,extE e' a→extE e a:=by
 unfold recL at h
 by_cases h4:l.kind=4
 ·have h3:=hok.calc3 h4
  obtain⟨t1,t2,t3,hT⟩:=drop2 h3
  have o3:okT e.length t3:=hok.terms t3 (by rw [hT];simp)
  have hdr:l.terms.drop 2=[t3]:=by rw [hT];rfl
  have hlit:litTs l=[t3]:=by unfold litTs;rw [if_neg (by omega),hdr]
  rw [if_pos h4]
  by_cases h12:(l.terms.take 2).all (fun t=>(vOf e t).isSome)=true
  ·have hfire:firesB (hasE e) l=true:=by
    unfold firesB
    rw [decide_eq_true h4,Bool.true_and,Bool.or_eq_true]
    right
    rw [List.all_eq_true] at h12 ⊢
    intro t ht
    rw [isT_hasE];exact h12 t ht
   have hbl:bLit (hasE e) l=setT (hasE e) t3:=by unfold bLit;rw [if_pos hfire,hlit];rfl
   cases hv:vOf e t3 with
   | some x =>
    rw [if_neg (by rw [hdr];simp [hv])] at h
    simp only [Option.some.injEq] at h
    subst h
    exact⟨rfl,fun a _=>Iff.rfl,by rw [hbl,setT_same (by rw [isT_hasE,hv];rfl)],fun a ha=>ha⟩
   | none =>
    rw [if_pos ⟨h4,h12,by rw [hdr];simp [hv]⟩] at h
    split at h
    ·rw [hdr] at h
     simp only [List.foldl_cons,List.foldl_nil,Option.some.injEq] at h
     subst h
     have hx:=fun a=>set_ext' (a:=a) (n:=calcL l (outE e)) o3 hv
     refine⟨List.length_set ..,fun a ha=>?_,by rw [set_has hv,hbl],fun a ha=>((hx a).1 ha).1⟩
     rw [hx a]
     refine⟨fun g=>g.1,fun g=>⟨g,?_⟩⟩
     have:=((holdE_calc h4 h3).1 ha).2
     rw [hdr,calcL_same g h3 (List.all_eq_true.1 h12)] at this
     simpa using this
    ·cases h
  ·rw [if_neg (by rintro⟨_,g,_⟩;exact h12 g)] at h
   simp only [Option.some.injEq] at h
   subst h
   refine⟨rfl,fun a _=>Iff.rfl,?_,fun a ha=>ha⟩
   have hnf:¬ firesB (hasE e) l=true:=by
    unfold firesB
    rw [decide_eq_false (by omega),Bool.false_or,Bool.and_eq_true]
    rintro⟨_,g⟩
    apply h12
    rw [List.all_eq_true] at g ⊢
    intro t ht
    rw [← isT_hasE];exact g t ht
   unfold bLit;rw [if_neg hnf]
 ·rw [if_neg (by rintro⟨g,_⟩;exact h4 g)] at h
  simp only [Option.some.injEq] at h
  subst h
  rw [if_neg h4]
  exact⟨rfl,fun a _=>Iff.rfl,rfl,fun a ha=>ha⟩
theorem recL_none {S:List Fct} {e:RE} {l:Ltl} (hok:okL S e.length l) (h:recL e l=none) (a:List Int) (ha:extE e a):holdE S l a=false:=by
 unfold recL at h
 split at h
 ·rename_i hc
  obtain⟨h4,h12,_⟩:=hc
  split at h
  ·cases h
  ·rename_i hn
   have h3:=hok.calc3 h4
   cases hh:holdE S l a with
   | false=>rfl
   | true =>
    have:=((holdE_calc h4 h3).1 hh).1
    rw [calcL_same ha h3 (List.all_eq_true.1 h12)] at this
    exact absurd this hn
 ·cases h
def calcs (body:List Ltl):List Ltl:=body.filter fun l=>decide (l.kind=4)
theorem calcs_round (l:Ltl) (body:List Ltl) (bs:List Bool):bRound (calcs (l::body)) bs=bRound (calcs body) (if l.kind=4 then bLit bs l else bs):=by
 unfold calcs
 rw [List.filter_cons]
 by_cases h:l.kind=4
 ·simp only [h,decide_true,if_true];rfl
 ·simp only [h,decide_false,if_false];rfl
theorem recP_some {S:List Fct}:∀ {body:List Ltl} {e e':RE},(∀ l∈body,okL S e.length l)→recP body e=some e' →
  e'.length=e.length∧(∀ a,(∀ l∈body,holdE S l a=true)→(extE e' a↔extE e a))∧hasE e' = bRound (calcs body) (hasE e)∧∀ a,extE e' a→extE e a
 | [],e,e',_,h=>by
  simp only [recP,List.foldlM_nil] at h
  cases h
  exact⟨rfl,fun a _=>Iff.rfl,rfl,fun a ha=>ha⟩
 | l::body,e,e',hok,h=>by
  simp only [recP,List.foldlM_cons] at h
  cases h1:recL e l with
  | none=>rw [h1] at h;cases h
  | some e1 =>
   rw [h1] at h
   obtain⟨g1,g2,g3,g4⟩:=recL_some (hok l (List.mem_cons_self ..)) h1
   obtain⟨k1,k2,k3,k4⟩:=recP_some (body:=body) (e:=e1) (fun x hx=>by rw [g1];exact hok x (List.mem_cons_of_mem _ hx)) h
   refine⟨k1.trans g1,fun a ha=>?_,by rw [k3,g3,calcs_round],fun a ha=>g4 a (k4 a ha)⟩
   rw [k2 a fun x hx=>ha x (List.mem_cons_of_mem _ hx),g2 a (ha l (List.mem_cons_self ..))]
theorem recP_none {S:List Fct}:∀ {body:List Ltl} {e:RE},(∀ l∈body,okL S e.length l)→recP body e=none→∀ a,extE e a→¬ ∀ l∈body,holdE S l a=true
 | [],e,_,h,_,_,_=>by simp [recP] at h
 | l::body,e,hok,h,a,ha,hall=>by
  simp only [recP,List.foldlM_cons] at h
  cases h1:recL e l with
  | none =>
   have:=recL_none (hok l (List.mem_cons_self ..)) h1 a ha
   rw [hall l (List.mem_cons_self ..)] at this;cases this
  | some e1 =>
   rw [h1] at h
   obtain⟨g1,g2,_,_⟩:=recL_some (hok l (List.mem_cons_self ..)) h1
   exact recP_none (body:=body) (e:=e1) (fun x hx=>by rw [g1];exact hok x (List.mem_cons_of_mem _ hx)) h a ((g2 a (hall l (List.mem_cons_self ..))).2 ha) fun x hx=>hall x (List.mem_cons_of_mem _ hx)
theorem recN_some {S:List Fct} {body:List Ltl}:∀ {n:Nat} {e e':RE},(∀ l∈body,okL S e.length l)→recN body n e=some e' →
  e'.length=e.length∧(∀ a,(∀ l∈body,holdE S l a=true)→(extE e' a↔extE e a))∧hasE e' = bIter (calcs body) n (hasE e)∧∀ a,extE e' a→extE e a
 | 0,e,e',_,h=>by
  simp only [recN,Option.some.injEq] at h
  subst h
  exact⟨rfl,fun a _=>Iff.rfl,rfl,fun a ha=>ha⟩
 | n + 1,e,e',hok,h=>by
  rw [recN,Option.bind_eq_some_iff] at h
  obtain⟨e1,h1,h2⟩:=h
  obtain⟨g1,g2,g3,g4⟩:=recP_some hok h1
  obtain⟨k1,k2,k3,k4⟩:=recN_some (fun x hx=>by rw [g1];exact hok x hx) h2
  refine⟨k1.trans g1,fun a ha=>by rw [k2 a ha,g2 a ha],by rw [k3,g3];rfl,fun a ha=>g4 a (k4 a ha)⟩
theorem recN_none {S:List Fct} {body:List Ltl}:∀ {n:Nat} {e:RE},(∀ l∈body,okL S e.length l)→recN body n e=none→∀ a,extE e a→¬ ∀ l∈body,holdE S l a=true
 | 0,e,_,h,_,_,_=>by simp [recN] at h
 | n + 1,e,hok,h,a,ha,hall=>by
  rw [recN] at h
  cases h1:recP body e with
  | none=>exact recP_none hok h1 a ha hall
  | some e1 =>
   rw [h1] at h
   obtain⟨g1,g2,_,_⟩:=recP_some hok h1
   exact recN_none (fun x hx=>by rw [g1];exact hok x hx) h a ((g2 a hall).2 ha) hall
theorem recN_closed {S:List Fct} {body:List Ltl} {e e':RE} (hok:∀ l∈body,okL S e.length l) (h:recN body (body.length + 1) e=some e'):closedB (calcs body) (hasE e'):=by
 obtain⟨_,_,h3,_⟩:=recN_some hok h
 have hsub:∀ l∈calcs body,l∈body:=fun l hl=>(List.mem_filter.1 hl).1
 have hokT:∀ l∈calcs body,∀ t∈litTs l,okT (hasE e).length t:=by
  intro l hl t ht
  rw [hasE_len]
  refine (hok l (hsub l hl)).terms t ?_
  unfold litTs at ht
  split at ht
  ·exact ht
  ·exact List.mem_of_mem_drop ht
 have hle:(calcs body).length≤body.length:=List.length_filter_le _ _
 have hr:=bRound_rest hokT
 have hfix:bRound (calcs body) (hasE e')=hasE e':=by
  obtain⟨d,hd⟩:=Nat.exists_eq_add_of_le (show (calcs body).length≤body.length + 1 by omega)
  rw [h3,hd,bIter_add,bIter_fix hr,hr]
 intro l hl hf t ht
 rw [← hfix]
 exact bRound_done (fun l hl t ht=>by
  have:=hokT l hl t ht
  rw [hasE_len] at this ⊢
  rw [(recN_some hok h).1];exact this) l hl hf t ht
theorem wrong_false {S:List Fct} {body:List Ltl} {e:RE} {a:List Int} (ha:extE e a) (hall:∀ l∈body,holdE S l a=true):wrongE S body e=false:=by
 unfold wrongE
 rw [List.any_eq_false]
 intro l hl hc
 rw [Bool.and_eq_true,List.all_eq_true] at hc
 have:=holdE_same (S:=S) ha hc.1
 rw [hall l hl] at this
 rw [← this] at hc
 exact absurd hc.2 (by simp)
theorem fromE_spec (S:List Fct) (hS:S.Nodup) (body:List Ltl):∀ (ys:List Ltl) (e:RE),(∀ l∈ys,l∈body∧l.kind=1)→(∀ l∈body,okL S e.length l)→Bd body (hasE e)→(∀ l∈body,l.kind=1→l∈ys∨∀ t∈l.terms,isT (hasE e) t=true) →
  (∀ a,a∈fromE S body ys e↔extE e a∧∀ l∈body,holdE S l a=true)∧(fromE S body ys e).Nodup
 | [],e,_,hok,hB,hy=>by
  rw [fromE]
  cases hr:recN body (body.length + 1) e with
  | none=>exact⟨fun a=>⟨fun h=>by simp at h,fun⟨h1,h2⟩=>absurd h2 (recN_none hok hr a h1)⟩,.nil⟩
  | some e' =>
   simp only
   obtain⟨g1,g2,g3,g4⟩:=recN_some hok hr
   have hcl:=recN_closed hok hr
   have hle:leB (hasE e) (hasE e'):=by
    rw [g3]
    have:∀ n bs,leB bs (bIter (calcs body) n bs):=by
     intro n
     induction n with
     | zero=>intro bs;exact leB.refl _
     | succ n ih=>intro bs;exact (bRound_le _ _).trans (ih _)
    exact this _ _
   have hfull:∀ v,v < (hasE e').length→(hasE e').getD v false=true:=by
    refine hB _ hle fun l hl hf t ht=>?_
    by_cases h1:l.kind=1
    ·have hl1:litTs l=l.terms:=by unfold litTs;rw [if_pos h1]
     rw [hl1] at ht
     rcases hy l hl h1 with h|h
     ·simp at h
     ·exact isT_mono hle (h t ht)
    ·have h4:l.kind=4:=by
      unfold firesB at hf
      rw [decide_eq_false h1,Bool.false_or,Bool.and_eq_true] at hf
      exact of_decide_eq_true hf.1
     exact hcl l (List.mem_filter.2 ⟨hl,decide_eq_true h4⟩) hf t ht
   have hsome:∀ l∈body,∀ t∈l.terms,(vOf e' t).isSome=true:=fun l hl t ht=>full_some hfull (by rw [g1];exact (hok l hl).terms t ht)
   split
   ·rename_i hw
    refine⟨fun a=>⟨fun h=>by simp at h,fun⟨h1,h2⟩=>?_⟩,.nil⟩
    rw [wrong_false ((g2 a h2).2 h1) h2] at hw;cases hw
   ·rename_i hw
    refine⟨fun a=>?_,List.nodup_cons.2 ⟨by simp,.nil⟩⟩
    rw [List.mem_singleton]
    constructor
    ·rintro rfl
     have hx:=(full_out hfull (outE e')).2 rfl
     refine⟨g4 _ hx,fun l hl=>?_⟩
     cases hh:holdE S l (outE e') with
     | true=>rfl
     | false =>
      exfalso;apply hw
      unfold wrongE
      rw [List.any_eq_true]
      exact⟨l,hl,by rw [hh,Bool.and_eq_true,List.all_eq_true];exact⟨fun t ht=>hsome l hl t ht,rfl⟩⟩
    ·rintro⟨h1,h2⟩
     exact (full_out hfull a).1 ((g2 a h2).2 h1)
 | l::ys,e,hys,hok,hB,hy=>by
  rw [fromE]
  cases hr:recN body (body.length + 1) e with
  | none=>exact⟨fun a=>⟨fun h=>by simp at h,fun⟨h1,h2⟩=>absurd h2 (recN_none hok hr a h1)⟩,.nil⟩
  | some e' =>
   simp only
   obtain⟨g1,g2,g3,g4⟩:=recN_some hok hr
   have hle:leB (hasE e) (hasE e'):=by
    rw [g3]
    have:∀ n bs,leB bs (bIter (calcs body) n bs):=by
     intro n
     induction n with
     | zero=>intro bs;exact leB.refl _
     | succ n ih=>intro bs;exact (bRound_le _ _).trans (ih _)
    exact this _ _
   obtain⟨hl,hl1⟩:=hys l (List.mem_cons_self ..)
   have hlit:litTs l=l.terms:=by unfold litTs;rw [if_pos hl1]
   split
   ·rename_i hw
    refine⟨fun a=>⟨fun h=>by simp at h,fun⟨h1,h2⟩=>?_⟩,.nil⟩
    rw [wrong_false ((g2 a h2).2 h1) h2] at hw;cases hw
   ·have ih:∀ e'',e''.length=e'.length→leB (hasE e') (hasE e'')→((∀ t∈litTs l,isT (hasE e'') t=true)∨∀ ds,firesB ds l=false)→(∀ a,a∈fromE S body ys e''↔extE e'' a∧∀ l∈body,holdE S l a=true)∧(fromE S body ys e'').Nodup:=by
     intro e'' k1 k2 k3
     refine fromE_spec S hS body ys e'' (fun x hx=>hys x (List.mem_cons_of_mem _ hx)) (fun x hx=>by rw [k1,g1];exact hok x hx) (fun cs c1 c2=>hB cs ((hle.trans k2).trans c1) c2) fun x hx hx1=>?_
     rcases hy x hx hx1 with h|h
     ·rcases List.mem_cons.1 h with rfl|h
      ·right
       rcases k3 with k3|k3
       ·rw [hlit] at k3;exact k3
       ·have:=k3 []
        unfold firesB at this
        rw [decide_eq_true hl1] at this
        simp at this
      ·exact .inl h
     ·exact .inr fun t ht=>isT_mono (hle.trans k2) (h t ht)
    have hok':okL S e'.length l:=by rw [g1];exact hok l hl
    refine⟨fun a=>?_,litW_nodup hS hok' fun e'' k1 k2 k3=>⟨(ih e'' k1 k2 k3).2,fun a ha=>(((ih e'' k1 k2 k3).1 a).1 ha).1⟩⟩
    rw [litW_mem (P:=fun a=>∀ l∈body,holdE S l a=true) hok' (.inr hl1) a fun e'' k1 k2 k3=>(ih e'' k1 k2 k3).1 a]
    constructor
    ·rintro⟨⟨h1,_⟩,h2⟩;exact⟨(g2 a h2).1 h1,h2⟩
    ·rintro⟨h1,h2⟩;exact⟨⟨(g2 a h2).2 h1,h2 l hl⟩,h2⟩
def encW (a:List Int):List D:=[.slice 1 (a.map encI)]
structure okB (S:List Fct) (v:Nat) (body:List Ltl):Prop where
 lit:∀ l∈body,okL S v l
 op:∀ l∈body,l.kind=3→1≤l.op∧l.op≤4
 nums:∀ l∈body,∀ t∈l.terms,-1000000≤t.n∧t.n≤1000000
 facts:∀ x∈S,∀ y∈x.args,-1000000≤y∧y≤1000000
 len:body.length≤4
 vle:v≤8
 tlen:∀ l∈body,l.terms.length≤3
def numE (e:RE):Prop:=∀ (v:Nat) (x:Int),e[v]? = some (some x)→-1000000≤x∧x≤1000000
theorem vA_num {e:RE} (h:numE e) {t:Trm} (ht:-1000000≤t.n∧t.n≤1000000):-1000000≤vA (outE e) t∧vA (outE e) t≤1000000:=by
 unfold vA outE
 split
 ·exact ht
 ·rw [List.getD,List.getElem?_map]
  cases hx:e[t.var.toNat]? with
  | none=>simp
  | some y =>
   cases y with
   | none=>simp
   | some z=>simpa using h _ _ hx
theorem numE_set {e:RE} (h:numE e) {v:Nat} {n:Int} (hn:numB n=true):numE (e.set v (some n)):=by
 intro u x hx
 by_cases hq:v=u
 ·subst hq
  by_cases hl:v < e.length
  ·rw [List.getElem?_set_self hl] at hx
   simp at hx;subst hx
   exact numB_iff.1 hn
  ·rw [List.getElem?_eq_none (by rw [List.length_set];omega)] at hx;cases hx
 ·rw [List.getElem?_set_ne hq] at hx
  exact h u x hx
theorem recL_num {S:List Fct} {e e':RE} {l:Ltl} (hok:okL S e.length l) (hn:numE e) (h:recL e l=some e'):numE e':=by
 unfold recL at h
 split at h
 ·rename_i hc
  split at h
  ·rename_i hb
   obtain⟨t1,t2,t3,hT⟩:=drop2 (hok.calc3 hc.1)
   rw [hT] at h
   simp only [List.drop_succ_cons,List.drop_zero,List.foldl_cons,List.foldl_nil,Option.some.injEq] at h
   subst h
   exact numE_set hn hb
  ·cases h
 ·simp only [Option.some.injEq] at h;subst h;exact hn
theorem recP_num {S:List Fct}:∀ {body:List Ltl} {e e':RE},(∀ l∈body,okL S e.length l)→numE e→recP body e=some e'→numE e'
 | [],e,e',_,hn,h=>by simp only [recP,List.foldlM_nil] at h;cases h;exact hn
 | l::body,e,e',hok,hn,h=>by
  simp only [recP,List.foldlM_cons] at h
  cases h1:recL e l with
  | none=>rw [h1] at h;cases h
  | some e1 =>
   rw [h1] at h
   have g1:=(recL_some (hok l (List.mem_cons_self ..)) h1).1
   exact recP_num (body:=body) (e:=e1) (fun x hx=>by rw [g1];exact hok x (List.mem_cons_of_mem _ hx)) (recL_num (hok l (List.mem_cons_self ..)) hn h1) h
theorem recN_num' {S:List Fct} {body:List Ltl}:∀ {n:Nat} {e e':RE},(∀ l∈body,okL S e.length l)→numE e→recN body n e=some e'→numE e'
 | 0,e,e',_,hn,h=>by simp only [recN,Option.some.injEq] at h;subst h;exact hn
 | n + 1,e,e',hok,hn,h=>by
  rw [recN,Option.bind_eq_some_iff] at h
  obtain⟨e1,h1,h2⟩:=h
  have g1:=(recP_some hok h1).1
  exact recN_num' (fun x hx=>by rw [g1];exact hok x hx) (recP_num hok hn h1) h2
theorem recN_num {S:List Fct} {body:List Ltl} {n:Nat} {e e':RE} (hok:okB S e.length body) (hn:numE e) (h:recN body n e=some e'):numE e':=recN_num' hok.lit hn h
def SortW (l:List (List Int)):Prop:=l.Pairwise fun a b=>ordL a b≤0
theorem ordL_le_trans {a b c:List Int} (h:ordL a b≤0) (g:ordL b c≤0):ordL a c≤0:=by
 by_cases h1:ordL a b=0
 ·rw [ordL_eq0 h1];exact g
 ·by_cases g1:ordL b c=0
  ·rw [← ordL_eq0 g1];exact h
  ·have:=ordL_trans (l:=a) (m:=b) (n:=c) (by omega) (by omega)
   omega
theorem ordL_antisymm {a b:List Int} (h:ordL a b≤0) (g:ordL b a≤0):a=b:=by
 rw [ordL_anti] at g
 exact ordL_eq0 (by omega)
theorem sortW_unique:∀ {a b:List (List Int)},SortW a→SortW b→a.Perm b→a=b
 | [],b,_,_,h=>by rw [List.nil_perm.1 h]
 | x::a,b,ha,hb,h=>by
  match b,h,hb with
  | [],h,_=>simp at h
  | y::b,h,hb =>
   obtain⟨a1,a2⟩:=List.pairwise_cons.1 ha
   obtain⟨b1,b2⟩:=List.pairwise_cons.1 hb
   have hxy:x=y:=by
    rcases List.mem_cons.1 (h.mem_iff.1 List.mem_cons_self) with h1|h1
    ·exact h1
    ·rcases List.mem_cons.1 (h.mem_iff.2 (List.mem_cons_self (a:=y) (l:=b))) with h2|h2
     ·exact h2.symm
     ·exact ordL_antisymm (a1 y h2) (b1 x h1)
   subst hxy
   rw [sortW_unique a2 b2 (List.perm_cons x |>.1 h)]
theorem same_members {a b:List (List Int)} (ha:a.Nodup) (hb:b.Nodup) (h:∀ x,x∈a↔x∈b):a.Perm b:=(List.perm_ext_iff_of_nodup ha hb).2 h
def factE (arity:List Int) (x:Fct):Int :=
 if inR x.pred 0 ((arity.length:Int) - 1)=false then 5
 else if (x.args.length:Int)≠arity.getD x.pred.toNat 0 then 1
 else if x.args.any (fun n=>!numB n) then 3
 else 0
structure FctOk (arity:List Int) (x:Fct):Prop where
 pred:0≤x.pred∧x.pred < arity.length
 len:(x.args.length:Int)=arity.getD x.pred.toNat 0
 nums:∀ n∈x.args,-1000000≤n∧n≤1000000
theorem numB_in {n:Int} (h:numB n=true):-1000000≤n∧n≤1000000:=by unfold numB inR at h;simpa using h
theorem factE_ok {arity:List Int} {x:Fct} (h:factE arity x=0):FctOk arity x:=by
 unfold factE at h
 split at h;· cases h
 rename_i h1
 split at h;· cases h
 rename_i h2
 split at h;· cases h
 rename_i h3
 refine⟨by unfold inR at h1;simp at h1;omega,by simpa using h2,fun n hn=>?_⟩
 have h3':x.args.any (fun n=>!numB n)=false:=by simpa using h3
 rw [List.any_eq_false] at h3'
 have:=h3' n hn
 exact numB_in (by simpa using this)
theorem firstL_all0 {α:Type} {f:α→Int}:∀ {l:List α},firstL f l=0→∀ x∈l,f x=0
 | [],_,_,h=>by simp at h
 | y::l,h,x,hx=>by
  unfold firstL at h
  split at h
  ·rename_i h1;exact absurd h h1
  ·rename_i h1
   rcases List.mem_cons.1 hx with rfl|hx
   ·exact Classical.byContradiction h1
   ·exact firstL_all0 h x hx
theorem firstI_all0 {f:Nat→Int}:∀ {k i:Nat},firstI f i k=0→∀ j,i≤j→j < i + k→f j=0
 | 0,_,_,j,h1,h2=>by omega
 | k + 1,i,h,j,h1,h2=>by
  unfold firstI at h
  split at h
  ·rename_i h3;exact absurd h h3
  ·rename_i h3
   by_cases hj:j=i
   ·subst hj;exact Classical.byContradiction h3
   ·exact firstI_all0 h j (by omega) (by omega)
theorem termE_zero {vars:Int} {t:Trm} (h:termE vars t=0):t.var < vars∧-1≤t.var∧(-1000000≤t.n∧t.n≤1000000):=by
 unfold termE at h
 split at h;· cases h
 rename_i h1
 split at h;· cases h
 rename_i h2
 have h1':inR t.var (-1) (vars - 1)=true:=by simpa using h1
 have h3:numB t.n=true:=by
  cases hn:numB t.n with
  | true=>rfl
  | false=>exact absurd (.inl hn) h2
 unfold inR at h1'
 simp at h1'
 exact⟨by omega,by omega,numB_in h3⟩
structure RulR (arity:List Int) (r:Rul):Prop where
 pred:0≤r.pred∧r.pred < arity.length
 tlen:(r.terms.length:Int)=arity.getD r.pred.toNat 0
 vars:0≤r.vars∧r.vars≤8
 terms:∀ t∈r.terms,t.var < r.vars∧-1≤t.var∧(-1000000≤t.n∧t.n≤1000000)
 fold:0≤r.fold∧r.fold≤4
 folded:r.fold≠0→0 < r.terms.length∧0 < r.body.length
 body:r.body.length≤4
 lits:∀ l∈r.body,litE arity r.vars l=0
 safe:safeB r=true
theorem ruleE_right {arity:List Int} {r:Rul} (h:ruleE arity r=0):RulR arity r:=by
 unfold ruleE at h
 split at h;· cases h
 rename_i h1
 split at h;· cases h
 rename_i h2
 split at h;· cases h
 rename_i h3
 split at h
 ·rename_i h4;exact absurd h h4
 rename_i h4
 split at h;· cases h
 rename_i h5
 split at h;· cases h
 rename_i h6
 split at h;· cases h
 rename_i h7
 split at h
 ·rename_i h8;exact absurd h h8
 rename_i h8
 split at h;· cases h
 rename_i h9
 have h1':inR r.pred 0 ((arity.length:Int) - 1)=true:=by simpa using h1
 have h3':inR r.vars 0 8=true:=by simpa using h3
 have h5':inR r.fold 0 4=true:=by simpa using h5
 unfold inR at h1' h3' h5'
 simp at h1' h3' h5'
 refine⟨by omega,by simpa using h2,by omega,fun t ht=>?_,by omega,fun hf=>?_,by omega,fun l hl=>?_,by simpa using h9⟩
 ·have:firstL (termE r.vars) r.terms=0:=by unfold termsE at h4;simpa using h4
  exact termE_zero (firstL_all0 this t ht)
 ·have:¬ (r.terms.length=0∨r.body.length=0):=fun hc=>h6 ⟨hf,hc⟩
  omega
 ·have:firstL (litE arity r.vars) r.body=0:=by simpa using h8
  exact firstL_all0 this l hl
theorem progE_rule {nameB:ByteArray→Bool} {p:Prg} (h:progE nameB p=0):(∀ r∈p.rules,RulR p.arity r)∧(∀ i,0≤p.arity.getD i 0∧p.arity.getD i 0≤3)∧p.arity.length≤10∧p.rules.length≤12:=by
 unfold progE at h
 split at h;· cases h
 rename_i h1
 split at h;· cases h
 rename_i h2
 split at h
 ·rename_i h3;exact absurd h h3
 rename_i h3
 refine⟨fun r hr=>ruleE_right (firstL_all0 h r hr),fun i=>?_,by omega,by omega⟩
 by_cases hi:i < p.names.length
 ·have h3':firstI (nameE nameB p) 0 p.names.length=0:=by simpa using h3
  have:=firstI_all0 h3' i (Nat.zero_le _) (by omega)
  unfold nameE at this
  split at this;· cases this
  rename_i h4
  have h4':inR (p.arity.getD i 0) 0 3=true:=by simpa using h4
  unfold inR at h4'
  simp only [Bool.and_eq_true,decide_eq_true_eq] at h4'
  exact h4'
 ·rw [List.getD,List.getElem?_eq_none (by omega)]
  exact⟨by simp,by simp⟩
theorem litE_right {arity:List Int} {vars:Int} {l:Ltl} (h:litE arity vars l=0):(1≤l.kind∧l.kind≤4)∧opB l.kind l.op=true∧((l.kind=1∨l.kind=2)→(0≤l.pred∧l.pred < arity.length)∧(l.terms.length:Int)=arity.getD l.pred.toNat 0)∧(¬ (l.kind=1∨l.kind=2)→l.pred=0∧(l.terms.length:Int)=l.kind - 1)∧∀ t∈l.terms,t.var < vars∧-1≤t.var∧(-1000000≤t.n∧t.n≤1000000):=by
 unfold litE at h
 split at h;· cases h
 rename_i h1
 split at h;· cases h
 rename_i h2
 have h1':inR l.kind 1 4=true:=by simpa using h1
 unfold inR at h1'
 simp at h1'
 have h2':opB l.kind l.op=true:=by simpa using h2
 split at h
 ·rename_i hk
  split at h;· cases h
  rename_i h3
  split at h;· cases h
  rename_i h4
  have h3':inR l.pred 0 ((arity.length:Int) - 1)=true:=by simpa using h3
  unfold inR at h3'
  simp at h3'
  exact⟨by omega,h2',fun _=>⟨by omega,by simpa using h4⟩,fun hn=>absurd hk hn,fun t ht=>termE_zero (firstL_all0 h t ht)⟩
 ·rename_i hk
  split at h;· cases h
  rename_i h3
  refine⟨by omega,h2',fun hc=>absurd hc hk,fun _=>?_,fun t ht=>termE_zero (firstL_all0 h t ht)⟩
  exact⟨Classical.byContradiction fun hc=>h3 (.inl hc),Classical.byContradiction fun hc=>h3 (.inr hc)⟩
theorem lit_okL {arity:List Int} {vars:Int} {l:Ltl} {S:List Fct} (h:litE arity vars l=0) (hv:0≤vars) (hS:∀ x∈S,FctOk arity x):okL S vars.toNat l:=by
 obtain⟨h1,h2,h3,h4,h5⟩:=litE_right h
 refine⟨h1,fun t ht=>?_,fun hk=>?_,fun hk=>?_,fun hk x hx hp=>?_⟩
 ·have:=h5 t ht;unfold okT;omega
 ·have:=h4 (by omega);omega
 ·have:=h4 (by omega);omega
 ·have g1:=(h3 (.inl hk)).2
  have g2:=(hS x hx).len
  rw [hp] at g2;omega
theorem setT_into {bs cs:List Bool} {t:Trm} (h:leB bs cs) (ht:isT cs t=true):leB (setT bs t) cs:=by
 refine⟨(setT_len bs t).trans h.1,fun i hi=>?_⟩
 unfold setT at hi
 split at hi
 ·exact h.2 i hi
 ·rename_i hv
  by_cases hq:t.var.toNat=i
  ·subst hq
   unfold isT at ht
   rw [decide_eq_false hv,Bool.false_or] at ht
   exact ht
  ·rw [List.getD,List.getElem?_set_ne hq,← List.getD] at hi
   exact h.2 i hi
theorem setTs_into {cs:List Bool}:∀ {l:List Trm} {bs:List Bool},leB bs cs→(∀ t∈l,isT cs t=true)→leB (l.foldl setT bs) cs
 | [],_,h,_=>h
 | t::l,_,h,ht=>setTs_into (l:=l) (setT_into h (ht t (List.mem_cons_self ..))) fun x hx=>ht x (List.mem_cons_of_mem _ hx)
theorem bLit_into {body:List Ltl} {bs cs:List Bool} {l:Ltl} (hl:l∈body) (h:leB bs cs) (hc:closedB body cs):leB (bLit bs l) cs:=by
 unfold bLit
 split
 ·rename_i hf;exact setTs_into h (hc l hl (fires_mono h hf))
 ·exact h
theorem bRound_into {body:List Ltl} {cs:List Bool} (hc:closedB body cs):∀ (ls:List Ltl) {bs:List Bool},(∀ l∈ls,l∈body)→leB bs cs→leB (bRound ls bs) cs
 | [],_,_,h=>h
 | l::ls,_,hs,h=>bRound_into hc ls (fun x hx=>hs x (List.mem_cons_of_mem _ hx)) (bLit_into (hs l (List.mem_cons_self ..)) h hc)
theorem bIter_into {body:List Ltl} {cs:List Bool} (hc:closedB body cs):∀ (n:Nat) {bs:List Bool},leB bs cs→leB (bIter body n bs) cs
 | 0,_,h=>h
 | n + 1,_,h=>bIter_into hc n (bRound_into hc body (fun _ hl=>hl) h)
theorem safe_Bd {r:Rul} (h:safeB r=true):Bd r.body (List.replicate r.vars.toNat false):=by
 intro cs h1 h2 v hv
 refine (bIter_into h2 (r.body.length + 1) h1).2 v ?_
 unfold safeB boundL at h
 rw [List.all_eq_true] at h
 have hl:v < (bIter r.body (r.body.length + 1) (List.replicate r.vars.toNat false)).length:=by rw [bIter_len,h1.1];exact hv
 rw [List.getD,List.getElem?_eq_getElem hl]
 exact h _ (List.getElem_mem hl)
abbrev e0 (v:Nat):RE:=List.replicate v none
theorem hasE_e0 (v:Nat):hasE (e0 v)=List.replicate v false:=by unfold hasE e0;rw [List.map_replicate];rfl
theorem outE_e0 (v:Nat):outE (e0 v)=List.replicate v 0:=by unfold outE e0;rw [List.map_replicate];rfl
def yesOf (body:List Ltl):List Ltl:=body.filter fun l=>decide (l.kind=1)
theorem ways_perm {S:List Fct} {v:Nat} {body:List Ltl} (hS:S.Nodup) (hok:∀ l∈body,okL S v l) (hB:Bd body (List.replicate v false)) :
  (findE S body.length body (e0 v)).Perm (fromE S body (yesOf body) (e0 v))∧(fromE S body (yesOf body) (e0 v)).Nodup∧(∀ a,a∈fromE S body (yesOf body) (e0 v)↔a.length=v∧∀ l∈body,holdE S l a=true):=by
 have hl:(e0 v).length=v:=List.length_replicate
 have hok':∀ l∈body,okL S (e0 v).length l:=fun l h=>by rw [hl];exact hok l h
 have hB':Bd body (hasE (e0 v)):=by rw [hasE_e0];exact hB
 obtain⟨g1,g2⟩:=fromE_spec S hS body (yesOf body) (e0 v) (fun l h=>⟨(List.mem_filter.1 h).1,of_decide_eq_true (List.mem_filter.1 h).2⟩) hok' hB' (fun l h h1=>.inl (List.mem_filter.2 ⟨h,decide_eq_true h1⟩))
 have g3:=findE_mem S body.length body (e0 v) (Nat.le_refl _) hok' hB'
 have g4:=findE_nodup S hS body.length body (e0 v) (Nat.le_refl _) hok' hB'
 refine⟨same_members g4 g2 fun a=>(g3 a).trans (g1 a).symm,g2,fun a=>(g1 a).trans (and_congr_left fun _=>?_)⟩
 unfold extE
 rw [hl]
 refine⟨fun h=>h.1,fun h=>⟨h,fun u x hx=>?_⟩⟩
 unfold e0 at hx
 rw [List.getElem?_replicate] at hx
 split at hx <;> simp at hx
def waysL (S:List Fct) (v:Nat) (body:List Ltl):List (List Int):=(fromE S body (yesOf body) (e0 v)).mergeSort fun a b=>decide (ordL a b≤0)
theorem waysL_perm (S:List Fct) (v:Nat) (body:List Ltl):(waysL S v body).Perm (fromE S body (yesOf body) (e0 v)):=List.mergeSort_perm _ _
theorem waysL_sort (S:List Fct) (v:Nat) (body:List Ltl):SortW (waysL S v body):=by
 have:=List.pairwise_mergeSort (le:=fun a b=>decide (ordL a b≤0)) (fun a b c h g=>decide_eq_true (ordL_le_trans (of_decide_eq_true h) (of_decide_eq_true g))) (fun a b=>by
  rw [Bool.or_eq_true,decide_eq_true_eq,decide_eq_true_eq,ordL_anti b a];omega) (fromE S body (yesOf body) (e0 v))
 exact this.imp fun h=>of_decide_eq_true h
theorem waysL_eq {S:List Fct} {v:Nat} {body:List Ltl} {o:List (List Int)} (h:SortW o) (hp:o.Perm (fromE S body (yesOf body) (e0 v))):o=waysL S v body :=
 sortW_unique h (waysL_sort S v body) (hp.trans (waysL_perm S v body).symm)
abbrev pfB (r:Rul) (S:List Fct) (o:Nat):HB:=.blk 168 [.d (.int .i64 r.pred),.d (.slice 2 (r.terms.map encTrm)),.d (.int .i64 r.fold),.d (.slice 4 (r.body.map encLtl)),.d (.int .i64 r.vars),.d (.slice 2 (S.map encFct)),.row 1,.row 2,.d (.int .i64 2000),.row o]
abbrev pfH (r:Rul) (S:List Fct) (e:RE) (out:List (List Int)):Hp:=[(0,pfB r S 3),(1,.row 3 1 ((outE e).map encI)),(2,.row 4 1 ((hasE e).map encBl)),(3,.row 22 1 (out.map encW))]
set_option maxHeartbeats 8000000 in
theorem value_fn (r:Rul) (S:List Fct) (out:List (List Int)) (e:RE) (t:Trm) (ho:okT e.length t) :
  FnOk false Tryz.prog tab tab_ok 222 [.loc 0 0,elTrm t] 4 4 (pfH r S e out) (fun _ res H=>res = .tup [.d (.int .i64 (vA (outE e) t)),.d (.bool (vOf e t).isSome)]∧H=pfH r S e out):=by
 refine fn_enterR _ Tryz.func222 rfl rfl (by kernel_rfl) ?_
 intro O w0 E0 β0
 have lo:((outE e).map encI).length=e.length:=by rw [List.length_map,outE_len]
 have lh:((hasE e).map encBl).length=e.length:=by rw [List.length_map,hasE_len]
 unfold okT at ho
 by_cases hv:t.var < 0
 ·have h1:vA (outE e) t=t.n:=by unfold vA;rw [if_pos hv]
  have h2:(vOf e t).isSome=true:=by unfold vOf;rw [if_pos hv];rfl
  rw [h1,h2]
  repeat' (first|refine z0 ?_|apply ds_nil|refine z5 ?_|refine z10 ?_|apply dw_seq2|refine z16 ?_|refine z20 ?_|apply dw_skip|apply dw_ret|apply thenD_n|apply thenD_r|refine z1 ?_|(refine z23 ?_ ?_ <;> intro hg)|fail)
  all_goals try (exfalso;omega)
  exact⟨.inl rfl,_,rfl,id,4,_,pfH r S e out,rfl,⟨rfl,rfl,rfl,rfl,trivial⟩,rfl,rfl,rfl,rfl,rfl,rfl,rfl,rfl⟩
 ·have hlt:t.var.toNat < e.length:=by omega
  have h1:vA (outE e) t=(outE e)[t.var.toNat]'(by rw [outE_len];exact hlt):=by unfold vA;rw [if_neg hv,List.getD,List.getElem?_eq_getElem (by rw [outE_len];exact hlt)];rfl
  have h2:(vOf e t).isSome=(hasE e)[t.var.toNat]'(by rw [hasE_len];exact hlt):=by
   unfold vOf hasE;rw [if_neg hv,List.getD,List.getElem?_eq_getElem hlt,List.getElem_map];rfl
  rw [h1,h2]
  repeat' (first|refine z0 ?_|apply ds_nil|refine z5 ?_|refine z10 ?_|apply dw_seq2|refine z16 ?_|refine z20 ?_|apply dw_skip|apply dw_ret|apply thenD_n|apply thenD_r|refine z1 ?_|(refine z23 ?_ ?_ <;> intro hg)|fail)
  all_goals try (exfalso;omega)
  exact⟨.inl rfl,_,rfl,id,4,_,pfH r S e out,rfl,⟨rfl,rfl,rfl,rfl,trivial⟩,rfl,rfl,rfl,rfl,rfl,rfl,rfl,rfl⟩
set_option maxHeartbeats 8000000 in
theorem values_fn (r:Rul) (S:List Fct) (out:List (List Int)) (e:RE) (l:List Trm) (ho:∀ t∈l,okT e.length t) (hl:l.length≤4398046511104) :
  FnOk false Tryz.prog tab tab_ok 167 [.loc 0 0,.d (.slice 2 (l.map encTrm))] 4 4 (pfH r S e out)
   (fun _ res H=>res=(if l.all (fun t=>(vOf e t).isSome) then .tup [.d (.slice 1 ((l.map (vA (outE e))).map encI)),.d (.bool true)] else .tup [.d (.slice 1 []),.d (.bool false)])∧H=pfH r S e out):=by
 refine fn_enterR _ Tryz.func167 rfl rfl (by kernel_rfl) ?_
 intro O w0 E0 β0
 have ll:(l.map encTrm).length=l.length:=List.length_map _
 repeat' ((fail_if_success (apply dw_stopR 2));(first|refine z0 ?_|apply ds_nil|apply dw_seq2|refine z16 ?_|apply thenD_n))
 refine dw_ent (ent_nilrow (t:=6) 3 1 rfl) ?_
 repeat' (first|refine z0 ?_|apply ds_nil|apply dw_seq2|refine z16 ?_|apply dw_block|apply thenD_n)
 refine ds_loop (ι:=Nat) (fun i=>⟨5,[(0,.loc 0 0),(1,.d (.slice 2 (l.map encTrm))),(6,.row 4),(11,.d (.slice 2 (l.map encTrm))),(12,.d (.int .i64 l.length)),(13,.d (.int .i64 i))],(4,.row 3 1 (((l.take i).map (vA (outE e))).map encI))::pfH r S e out⟩)
  (fun i=>i≤l.length∧(l.take i).all (fun t=>(vOf e t).isSome)=true) (fun i=>l.length - i) 0 ⟨Nat.zero_le _,rfl⟩ (ent_ren id ⟨rfl,rfl,rfl,rfl,by rw [← ll];rfl,rfl,trivial⟩ ⟨rfl,rfl,rfl,rfl,rfl,trivial⟩ rfl rfl rfl rfl rfl rfl) ?_
 rintro i ⟨g1,g2⟩
 dsimp only at g1 g2 ⊢
 by_cases hi:i < l.length
 ·have w:=value_fn r S out e l[i] (ho _ (List.getElem_mem hi))
  have ht:l.take (i + 1)=l.take i++[l[i]]:=List.take_succ_eq_append_getElem hi
  repeat' (first|refine z0 ?_|apply ds_nil|apply dw_seq2|refine z16 ?_|apply dw_block|apply dw_skip|apply dw_exit|apply dw_ret|apply thenD_n|apply thenD_e|refine z17 ?_|refine z1 ?_|refine z3 ?_|(refine z23 ?_ ?_ <;> intro hg)|fail)
  all_goals try (exfalso;omega)
  (refine ds_callF id (w) rfl rfl rfl rfl ⟨rfl,rfl,rfl,rfl,trivial⟩ rfl rfl rfl rfl rfl rfl ?_ ?_)
  ·rintro k2 res H2 ⟨rfl,rfl⟩;exact⟨rfl,rfl⟩
  rintro k2 res H2 ⟨rfl,rfl⟩
  change DS _ _ _ _ _ _ _ _
  cases hs:(vOf e l[i]).isSome with
  | false =>
   have hall:l.all (fun t=>(vOf e t).isSome)=false:=by rw [List.all_eq_false];exact⟨_,List.getElem_mem hi,by rw [hs];simp⟩
   rw [hall]
   simp only [Bool.false_eq_true,if_false]
   repeat' (first|refine z0 ?_|apply ds_nil|apply dw_seq2|refine z16 ?_|refine z18 ?_|apply thenD_n)
   all_goals try (exfalso;omega)
   refine dw_ent (ent_nild 4 1 rfl) ?_
   repeat' (first|apply dw_ret|apply thenD_r|apply inB_r)
   exact⟨.inl rfl,_,rfl,id,4,_,pfH r S e out,rfl,⟨rfl,rfl,rfl,rfl,trivial⟩,rfl,rfl,rfl,rfl,rfl,rfl,rfl,rfl⟩
  | true =>
   repeat' (first|refine z0 ?_|apply ds_nil|apply dw_seq2|refine z16 ?_|apply dw_skip|refine z19 ?_|apply thenD_n|apply inB_n|refine z4 ?_|refine z2 ?_|fail)
   all_goals try (exfalso;omega)
   exact⟨i + 1,⟨hi,by rw [ht,List.all_append,g2];simp [hs]⟩,ent_ren (fun j=>match j with|4=>6|j=>j) ⟨rfl,rfl,rfl,rfl,rfl,rfl,trivial⟩ ⟨by rw [ht,List.map_append,List.map_append];rfl,rfl,rfl,rfl,rfl,trivial⟩ rfl rfl rfl rfl rfl rfl,by omega⟩
 ·rw [List.take_of_length_le (by omega)] at g2 ⊢
  rw [g2,if_pos rfl]
  repeat' (first|refine z0 ?_|apply ds_nil|apply dw_seq2|refine z16 ?_|apply dw_block|apply dw_skip|apply dw_exit|apply thenD_n|apply thenD_e|refine z17 ?_|refine z1 ?_|refine z3 ?_|(refine z23 ?_ ?_ <;> intro hg)|fail)
  all_goals try (exfalso;omega)
  refine dw_ent (ent_seal 4 rfl rfl rfl) ?_
  repeat' (apply dw_ret)
  exact⟨.inl rfl,_,rfl,id,4,_,pfH r S e out,rfl,⟨rfl,rfl,rfl,rfl,trivial⟩,rfl,rfl,rfl,rfl,rfl,rfl,rfl,rfl⟩
set_option maxHeartbeats 8000000 in
theorem calc_fn (op a b:Int) (ha:-1000000≤a∧a≤1000000) (hb:-1000000≤b∧b≤1000000):Fn 168 [.d (.int .i64 op),.d (.int .i64 a),.d (.int .i64 b)] (fun r=>r = .d (.int .i64 (calcE op a b))):=by
 refine fnp_enter' _ Tryz.func168 rfl rfl (by kernel_rfl) ?_
 intro O w0 E0 β0
 have hm:-1000000000000≤a * b∧a * b≤1000000000000:=by
  have h1:a.natAbs≤1000000:=by omega
  have h2:b.natAbs≤1000000:=by omega
  have h3:(a * b).natAbs≤1000000 * 1000000:=by rw [Int.natAbs_mul];exact Nat.mul_le_mul h1 h2
  omega
 unfold calcE
 by_cases h5:op=5
 ·rw [if_pos h5]
  repeat' (first|refine z0 ?_|apply ds_nil|apply dw_seq2|refine z16 ?_|apply dw_block|apply dw_skip|apply dw_ret|apply thenD_n|apply thenD_r|apply inB_n|apply inB_r|(refine z23 ?_ ?_ <;> intro hg)|fail)
  all_goals try (exfalso;omega)
  all_goals exact⟨.inl rfl,_,rfl,rfl,rfl⟩
 ·rw [if_neg h5]
  by_cases h6:op=6
  ·rw [if_pos h6]
   repeat' (first|refine z0 ?_|apply ds_nil|apply dw_seq2|refine z16 ?_|apply dw_block|apply dw_skip|apply dw_ret|apply thenD_n|apply thenD_r|apply inB_n|apply inB_r|(refine z23 ?_ ?_ <;> intro hg)|fail)
   all_goals try (exfalso;omega)
   all_goals exact⟨.inl rfl,_,rfl,rfl,rfl⟩
  ·rw [if_neg h6]
   repeat' (first|refine z0 ?_|apply ds_nil|apply dw_seq2|refine z16 ?_|apply dw_block|apply dw_skip|apply dw_ret|apply thenD_n|apply thenD_r|apply inB_n|apply inB_r|(refine z23 ?_ ?_ <;> intro hg)|fail)
   all_goals try (exfalso;omega)
   exact⟨.inl rfl,_,rfl,rfl,rfl⟩
set_option maxHeartbeats 8000000 in
theorem test_fn (op a b:Int):Fn 169 [.d (.int .i64 op),.d (.int .i64 a),.d (.int .i64 b)] (fun r=>r = .d (.bool (testE op a b))):=by
 refine fnp_enter' _ Tryz.func169 rfl rfl (by kernel_rfl) ?_
 intro O w0 E0 β0
 unfold testE
 by_cases h1:op=1
 ·rw [if_pos h1]
  repeat' (first|refine z0 ?_|apply ds_nil|apply dw_seq2|refine z16 ?_|apply dw_block|apply dw_skip|apply dw_ret|apply thenD_n|apply thenD_r|apply inB_n|apply inB_r|(refine z23 ?_ ?_ <;> intro hg)|fail)
  all_goals try (exfalso;omega)
  all_goals exact⟨.inl rfl,_,rfl,rfl,rfl⟩
 ·rw [if_neg h1]
  by_cases h2:op=2
  ·rw [if_pos h2]
   repeat' (first|refine z0 ?_|apply ds_nil|apply dw_seq2|refine z16 ?_|apply dw_block|apply dw_skip|apply dw_ret|apply thenD_n|apply thenD_r|apply inB_n|apply inB_r|(refine z23 ?_ ?_ <;> intro hg)|fail)
   all_goals try (exfalso;omega)
   all_goals exact⟨.inl rfl,_,rfl,rfl,rfl⟩
  ·rw [if_neg h2]
   by_cases h3:op=3
   ·rw [if_pos h3]
    repeat' (first|refine z0 ?_|apply ds_nil|apply dw_seq2|refine z16 ?_|apply dw_block|apply dw_skip|apply dw_ret|apply thenD_n|apply thenD_r|apply inB_n|apply inB_r|(refine z23 ?_ ?_ <;> intro hg)|fail)
    all_goals try (exfalso;omega)
    all_goals exact⟨.inl rfl,_,rfl,rfl,rfl⟩
   ·rw [if_neg h3]
    repeat' (first|refine z0 ?_|apply ds_nil|apply dw_seq2|refine z16 ?_|apply dw_block|apply dw_skip|apply dw_ret|apply thenD_n|apply thenD_r|apply inB_n|apply inB_r|(refine z23 ?_ ?_ <;> intro hg)|fail)
    all_goals try (exfalso;omega)
    exact⟨.inl rfl,_,rfl,rfl,rfl⟩
def unset (e:RE) (vs:List Int):RE:=vs.foldl (fun e v=>e.set v.toNat none) e
theorem unset_len:∀ (vs:List Int) (e:RE),(unset e vs).length=e.length
 | [],_=>rfl
 | v::vs,e=>by
  show (unset (e.set v.toNat none) vs).length=_
  rw [unset_len vs,List.length_set]
theorem unset_set:∀ (vs:List Int) (e:RE) (v:Nat) (y:Option Int),(∀ u∈vs,u.toNat≠v)→unset (e.set v y) vs=(unset e vs).set v y
 | [],_,_,_,_=>rfl
 | u::vs,e,v,y,h=>by
  show unset ((e.set v y).set u.toNat none) vs=(unset (e.set u.toNat none) vs).set v y
  rw [List.set_comm _ _ (Ne.symm (h u (List.mem_cons_self ..)) ),unset_set vs _ v y fun x hx=>h x (List.mem_cons_of_mem _ hx)]
theorem unset_get:∀ (vs:List Int) (e:RE) (v:Nat),(∀ u∈vs,u.toNat≠v)→(unset e vs)[v]? = e[v]?
 | [],_,_,_=>rfl
 | u::vs,e,v,h=>by
  show (unset (e.set u.toNat none) vs)[v]? = _
  rw [unset_get vs _ v fun x hx=>h x (List.mem_cons_of_mem _ hx),List.getElem?_set_ne (h u (List.mem_cons_self ..))]
theorem unset_snoc {e:RE} {vs:List Int} {v:Int} {y:Option Int} (hv:e[v.toNat]? = some none) (h:∀ u∈vs,u.toNat≠v.toNat):unset (e.set v.toNat y) (vs++[v])=unset e vs:=by
 have:unset (e.set v.toNat y) (vs++[v])=(unset (e.set v.toNat y) vs).set v.toNat none:=by unfold unset;rw [List.foldl_append];rfl
 rw [this,unset_set vs e _ _ h,List.set_set]
 have hg:=unset_get vs e v.toNat h
 rw [hv] at hg
 apply List.ext_getElem?
 intro j
 by_cases hj:v.toNat=j
 ·subst hj
  rw [hg,List.getElem?_set_self (List.getElem?_eq_some_iff.1 hg).1]
 ·rw [List.getElem?_set_ne hj]
theorem unset_take {e:RE} {vs:List Int} {k:Nat} (hk:k < vs.length):unset e (vs.take (k + 1))=(unset e (vs.take k)).set vs[k].toNat none:=by
 unfold unset;rw [List.take_succ_eq_append_getElem hk,List.foldl_append];rfl
theorem outE_unset (e:RE) (v:Nat):outE (e.set v none)=(outE e).set v 0:=by unfold outE;rw [List.map_set];rfl
theorem hasE_unset (e:RE) (v:Nat):hasE (e.set v none)=(hasE e).set v false:=by unfold hasE;rw [List.map_set];rfl
theorem outE_set' (e:RE) (v:Nat) (x:Int):outE (e.set v (some x))=(outE e).set v x:=by unfold outE;rw [List.map_set];rfl
theorem hasE_set' (e:RE) (v:Nat) (x:Int):hasE (e.set v (some x))=(hasE e).set v true:=by unfold hasE;rw [List.map_set];rfl
abbrev goH (r:Rul) (S:List Fct) (rest:List Ltl) (e:RE) (out:List (List Int)):Hp:=[(0,pfB r S 5),(1,.row 3 1 ((outE e).map encI)),(2,.row 4 1 ((hasE e).map encBl)),(3,.blk 166 [.loc 0 0]),(4,.blk 62 [.d (.slice 4 (rest.map encLtl))]),(5,.row 22 1 (out.map encW))]
def putW (w out:List (List Int)):List (List Int):=(out++w).take 2001
def fewW (w out:List (List Int)):Bool:=decide (out.length + w.length≤2000)
theorem putW_nil {out:List (List Int)} (h:out.length≤2000):putW [] out=out:=by unfold putW;rw [List.append_nil,List.take_of_length_le (by omega)]
theorem fewW_nil {out:List (List Int)} (h:out.length≤2000):fewW [] out=true:=by unfold fewW;simp;omega
def matW (W:RE→List (List Int)) (o:Option RE):List (List Int):=match o with|some e'=>W e'|none=>[]
theorem rowOk {α:Type} {f:α→List D} {l:List α} {i:Nat} (h:i < l.length) (hf:∀ x,(f x).length=1):i < (l.map f).length∧∀ y∈l.map f,y.length=1:=⟨by rw [List.length_map];exact h,fun y hy=>by obtain⟨z,_,rfl⟩:=List.mem_map.1 hy;exact hf z⟩
set_option maxHeartbeats 8000000 in
theorem match_fnR (r:Rul) (S:List Fct) (rest:List Ltl) (out:List (List Int)) (e:RE) (l:List Trm) (ns:List Int) (W:RE→List (List Int)) (hl:l.length=ns.length) (hl3:l.length≤1000) (ho:∀ t∈l,okT e.length t) (hout:out.length≤2000)
  (hthen:∀ e',matchE e l ns=some e'→FnOk false Tryz.prog tab tab_ok 165 [.loc 3 0,.loc 4 0] 5 6 (goH r S rest e' out) (fun k2 res H=>k2=6∧res = .d (.bool (fewW (W e') out))∧H=goH r S rest e' (putW (W e') out))) :
  FnOk false Tryz.prog tab tab_ok 166 [.loc 0 0,.d (.slice 2 (l.map encTrm)),.d (.slice 1 (ns.map encI)),.fn 165 [.loc 3 0,.loc 4 0]] 5 6 (goH r S rest e out)
   (fun k2 res H=>k2=6∧res = .d (.bool (fewW (matW W (matchE e l ns)) out))∧H=goH r S rest e (putW (matW W (matchE e l ns)) out)):=by
 refine fn_enterR _ Tryz.func166 rfl rfl (by kernel_rfl) ?_
 intro O w0 E0 β0
 have ll:(l.map encTrm).length=l.length:=List.length_map _
 have ln:(ns.map encI).length=ns.length:=List.length_map _
 repeat' ((fail_if_success (apply dw_stopR 3));(first|refine z0 ?_|apply ds_nil|apply dw_seq2|refine z16 ?_|apply thenD_n))
 refine dw_ent (ent_nilrow (t:=9) 3 1 rfl) ?_
 refine dw_cut (ι:=RE × List Int × Bool) (fun x=>⟨7,[(0,.loc 0 0),(3,.fn 165 [.loc 3 0,.loc 4 0]),(9,.row 6),(10,.d (.bool x.2.2))],(6,.row 3 1 (x.2.1.map encI))::goH r S rest x.1 out⟩)
  (fun x=>x.1.length=e.length∧unset x.1 x.2.1=e∧(∀ u∈x.2.1,0≤u∧∃ y,x.1[u.toNat]? = some (some y))∧(x.2.2=true→matchE e l ns=some x.1)∧(x.2.2=false→matchE e l ns=none)∧x.2.1.length≤l.length) ?_ ?_
 ·repeat' (first|refine z0 ?_|apply ds_nil|apply dw_seq2|refine z16 ?_|apply dw_block|apply thenD_n)
  refine ds_loop (ι:=Nat × RE × List Int) (fun x=>⟨7,[(0,.loc 0 0),(1,.d (.slice 2 (l.map encTrm))),(2,.d (.slice 1 (ns.map encI))),(3,.fn 165 [.loc 3 0,.loc 4 0]),(9,.row 6),(10,.d (.bool true)),(18,.d (.slice 2 (l.map encTrm))),(19,.d (.int .i64 l.length)),(20,.d (.int .i64 x.1))],(6,.row 3 1 (x.2.2.map encI))::goH r S rest x.2.1 out⟩)
   (fun x=>x.1≤l.length∧x.2.1.length=e.length∧matchE e l ns=matchE x.2.1 (l.drop x.1) (ns.drop x.1)∧unset x.2.1 x.2.2=e∧(∀ u∈x.2.2,0≤u∧∃ y,x.2.1[u.toNat]? = some (some y))∧x.2.2.length≤x.1) (fun x=>l.length - x.1) (0,e,[]) ⟨Nat.zero_le _,rfl,rfl,rfl,fun _ h=>(by simp at h),Nat.le_refl _⟩
   (ent_ren id ⟨rfl,rfl,rfl,rfl,rfl,rfl,rfl,by rw [← ll];rfl,rfl,trivial⟩ ⟨rfl,rfl,rfl,rfl,rfl,rfl,rfl,trivial⟩ rfl rfl rfl rfl rfl rfl) ?_
  rintro⟨i,ei,vs⟩ ⟨g1,g2,g3,g4,g5,g6⟩
  dsimp only at g1 g2 g3 g4 g5 g6 ⊢
  clear hthen
  by_cases hi:i < l.length
  ·have hoi:=ho _ (List.getElem_mem hi)
   rw [← g2] at hoi
   have w:=value_fn r S out ei l[i] hoi
   have hn:i < ns.length:=by omega
   rw [List.drop_eq_getElem_cons hi,List.drop_eq_getElem_cons hn,matchE] at g3
   repeat' (first|refine z0 ?_|apply ds_nil|apply dw_seq2|refine z16 ?_|apply dw_block|apply dw_skip|apply dw_exit|apply thenD_n|apply thenD_e|refine z17 ?_|refine z1 ?_|refine z3 ?_|(refine z23 ?_ ?_ <;> intro hg)|fail)
   all_goals try (exfalso;omega)
   refine ds_callF (fun j=>match j with|3=>5|j=>j) w rfl rfl rfl rfl ⟨rfl,rfl,rfl,rfl,trivial⟩ rfl rfl rfl rfl rfl rfl ?_ ?_
   ·rintro k2 res H2 ⟨rfl,rfl⟩;exact⟨rfl,rfl⟩
   rintro k2 res H2 ⟨rfl,rfl⟩
   change DS _ _ _ _ _ _ _ _
   clear w
   cases hv:vOf ei l[i] with
   | some x =>
    have hx:vA (outE ei) l[i]=x:=vOf_out hv
    rw [hv] at g3
    simp only at g3
    rw [hx]
    by_cases hc:x=ns[i]
    ·rw [if_pos hc] at g3
     repeat' (first|refine z0 ?_|apply ds_nil|apply dw_seq2|refine z16 ?_|apply dw_block|apply dw_skip|apply dw_exit|refine z18 ?_|refine z19 ?_|apply thenD_n|apply thenD_e|apply inB_n|refine z17 ?_|(apply inB_x;exact rfl)|(refine z23 ?_ ?_ <;> intro hg)|fail)
     all_goals try (exfalso;omega)
     exact⟨(i + 1,ei,vs),⟨hi,g2,g3,g4,g5,by dsimp only;omega⟩,ent_ren id ⟨rfl,rfl,rfl,rfl,rfl,rfl,rfl,rfl,rfl,trivial⟩ ⟨rfl,rfl,rfl,rfl,rfl,rfl,rfl,trivial⟩ rfl rfl rfl rfl rfl rfl,by show l.length - (i + 1) < l.length - i;omega⟩
    ·rw [if_neg hc] at g3
     repeat' (first|refine z0 ?_|apply ds_nil|apply dw_seq2|refine z16 ?_|apply dw_block|apply dw_skip|apply dw_exit|refine z18 ?_|refine z19 ?_|apply thenD_n|apply thenD_e|apply inB_n|refine z17 ?_|(apply inB_x;exact rfl)|(refine z23 ?_ ?_ <;> intro hg)|fail)
     all_goals try (exfalso;omega)
     exact⟨(ei,vs,false),⟨g2,g4,g5,(fun h=>(nomatch h)),fun _=>g3,by dsimp only;omega⟩,ent_ren id ⟨rfl,rfl,rfl,rfl,trivial⟩ ⟨rfl,rfl,rfl,rfl,rfl,rfl,rfl,trivial⟩ rfl rfl rfl rfl rfl rfl⟩
   | none =>
    rw [hv] at g3
    simp only at g3
    have hv0:¬ l[i].var < 0:=fun h=>by unfold vOf at hv;rw [if_pos h] at hv;cases hv
    unfold okT at hoi
    have hlt:l[i].var.toNat < ei.length:=by omega
    have hev:ei[l[i].var.toNat]? = some none:=by
     unfold vOf at hv
     rw [if_neg hv0,List.getD,List.getElem?_eq_getElem hlt] at hv
     rw [List.getElem?_eq_getElem hlt]
     simpa using hv
    have lo:((outE ei).map encI).length=ei.length:=by rw [List.length_map,outE_len]
    have lh:((hasE ei).map encBl).length=ei.length:=by rw [List.length_map,hasE_len]
    have hpm:l[i].var.toNat < ((outE ei).map encI).length∧∀ y∈(outE ei).map encI,y.length=1:=rowOk (by rw [outE_len];exact hlt) fun _=>rfl
    have hpk:l[i].var.toNat < ((hasE ei).map encBl).length∧∀ y∈(hasE ei).map encBl,y.length=1:=rowOk (by rw [hasE_len];exact hlt) fun _=>rfl
    have hne:∀ u∈vs,u.toNat≠l[i].var.toNat:=fun u hu he=>by
     obtain⟨_,y,hy⟩:=g5 u hu
     rw [he,hev] at hy;cases hy
    repeat' (first|refine z0 ?_|refine z12 ?_|apply ds_nil|refine z5 ?_|refine z6 ?_|refine z10 ?_|apply dw_seq2|refine z16 ?_|refine z20 ?_|apply dw_block|apply dw_skip|refine z18 ?_|refine z19 ?_|apply thenD_n|apply inB_n|refine z4 ?_|refine z2 ?_|fail)
    all_goals try (exfalso;omega)
    have o1:=outE_set' ei l[i].var.toNat ns[i]
    have o2:=hasE_set' ei l[i].var.toNat ns[i]
    refine⟨(i + 1,ei.set l[i].var.toNat (some ns[i]),vs++[l[i].var]),⟨hi,by dsimp only;rw [List.length_set];exact g2,g3,(unset_snoc hev hne).trans g4,fun u hu=>?_,by dsimp only;rw [List.length_append,List.length_singleton];omega⟩,
     ent_ren (fun j=>match j with|6=>8|j=>j) ⟨rfl,rfl,rfl,rfl,rfl,rfl,rfl,rfl,rfl,trivial⟩ ⟨by rw [List.map_append];rfl,rfl,by rw [o1,List.map_set];rfl,by rw [o2,List.map_set];rfl,rfl,rfl,rfl,trivial⟩ rfl rfl rfl rfl rfl rfl,by show l.length - (i + 1) < l.length - i;omega⟩
    rcases List.mem_append.1 hu with hu|hu
    ·obtain⟨q1,y,q2⟩:=g5 u hu
     exact⟨q1,y,by dsimp only;rw [List.getElem?_set_ne (Ne.symm (hne u hu))];exact q2⟩
    ·rw [List.mem_singleton] at hu;subst hu
     exact⟨by omega,ns[i],by dsimp only;rw [List.getElem?_set_self hlt]⟩
  ·rw [List.drop_of_length_le (by omega)] at g3
   have g3:matchE e l ns=some ei:=g3
   repeat' (first|refine z0 ?_|apply ds_nil|apply dw_seq2|refine z16 ?_|apply dw_block|apply dw_skip|apply dw_exit|apply thenD_n|apply thenD_e|refine z17 ?_|refine z1 ?_|refine z3 ?_|(refine z23 ?_ ?_ <;> intro hg)|fail)
   all_goals try (exfalso;omega)
   exact⟨(ei,vs,true),⟨g2,g4,g5,fun _=>g3,(fun h=>(nomatch h)),by dsimp only;omega⟩,ent_ren id ⟨rfl,rfl,rfl,rfl,trivial⟩ ⟨rfl,rfl,rfl,rfl,rfl,rfl,rfl,trivial⟩ rfl rfl rfl rfl rfl rfl⟩
 ·rintro⟨ei,vs,ok⟩ ⟨g2,g4,g5,g7,g8,g9⟩
  dsimp only at g2 g4 g5 g7 g8 g9 ⊢
  repeat' ((fail_if_success (apply dw_stopS 14));fail)
  refine dw_cut (ι:=Unit) (fun _=>⟨7,[(0,.loc 0 0),(9,.row 6),(15,.d (.bool (fewW (matW W (matchE e l ns)) out)))],(6,.row 3 1 (vs.map encI))::goH r S rest ei (putW (matW W (matchE e l ns)) out)⟩) (fun _=>True) ?_ ?_
  ·cases ok with
   | false =>
    have hm:=g8 rfl
    rw [hm,show matW W none=[] from rfl,fewW_nil hout,putW_nil hout]
    repeat' (first|refine z0 ?_|refine z12 ?_|apply ds_nil|refine z16 ?_|apply thenD_n)
    all_goals try (exfalso;omega)
    exact⟨(),trivial,ent_ren id ⟨rfl,rfl,rfl,trivial⟩ ⟨rfl,rfl,rfl,rfl,rfl,rfl,rfl,trivial⟩ rfl rfl rfl rfl rfl rfl⟩
   | true =>
    have hm:=g7 rfl
    have w:=hthen ei hm
    rw [hm,show matW W (some ei)=W ei from rfl]
    repeat' (first|refine z0 ?_|refine z16 ?_|fail)
    all_goals try (exfalso;omega)
    (refine ds_callVF id (w) rfl rfl rfl rfl rfl rfl ⟨rfl,rfl,rfl,rfl,rfl,rfl,trivial⟩ rfl rfl rfl rfl rfl rfl ?_ ?_)
    ·rintro k2 res H2 ⟨rfl,rfl,rfl⟩;exact⟨rfl,rfl⟩
    rintro k2 res H2 ⟨rfl,rfl,rfl⟩
    change DS _ _ _ _ _ _ _ _
    repeat' (first|refine z0 ?_|apply ds_nil|apply thenD_n)
    all_goals try (exfalso;omega)
    exact⟨(),trivial,ent_ren (fun j=>match j with|5=>12|j=>j) ⟨rfl,rfl,rfl,trivial⟩ ⟨rfl,rfl,rfl,rfl,rfl,rfl,rfl,trivial⟩ rfl rfl rfl rfl rfl rfl⟩
  ·clear hthen
   rintro _ _
   generalize fewW (matW W (matchE e l ns)) out=bb
   generalize putW (matW W (matchE e l ns)) out=o2
   have lv:(vs.map encI).length=vs.length:=List.length_map _
   repeat' (first|refine z0 ?_|apply ds_nil|apply dw_seq2|refine z16 ?_|apply dw_block|apply thenD_n)
   all_goals try (exfalso;omega)
   refine ds_loop (ι:=Nat) (fun i=>⟨7,[(0,.loc 0 0),(9,.row 6),(15,.d (.bool bb)),(76,.row 6),(77,.d (.int .i64 vs.length)),(78,.d (.int .i64 i))],(6,.row 3 1 (vs.map encI))::goH r S rest (unset ei (vs.take i)) o2⟩)
    (fun i=>i≤vs.length) (fun i=>vs.length - i) 0 (Nat.zero_le _) (ent_ren id ⟨rfl,rfl,rfl,rfl,by rw [← lv];rfl,rfl,trivial⟩ ⟨rfl,rfl,rfl,rfl,rfl,rfl,rfl,trivial⟩ rfl rfl rfl rfl rfl rfl) ?_
   intro i g1
   by_cases hi:i < vs.length
   ·obtain⟨h0,y,hy⟩:=g5 _ (List.getElem_mem hi)
    have hlt:vs[i].toNat < (unset ei (vs.take i)).length:=by rw [unset_len];exact (List.getElem?_eq_some_iff.1 hy).1
    have ht:=unset_take (e:=ei) hi
    have o1:=outE_unset (unset ei (vs.take i)) vs[i].toNat
    have o2':=hasE_unset (unset ei (vs.take i)) vs[i].toNat
    have lo:((outE (unset ei (vs.take i))).map encI).length=(unset ei (vs.take i)).length:=by rw [List.length_map,outE_len]
    have lh:((hasE (unset ei (vs.take i))).map encBl).length=(unset ei (vs.take i)).length:=by rw [List.length_map,hasE_len]
    have hpm:vs[i].toNat < ((outE (unset ei (vs.take i))).map encI).length∧∀ y∈(outE (unset ei (vs.take i))).map encI,y.length=1:=rowOk (by rw [outE_len];exact hlt) fun _=>rfl
    have hpk:vs[i].toNat < ((hasE (unset ei (vs.take i))).map encBl).length∧∀ y∈(hasE (unset ei (vs.take i))).map encBl,y.length=1:=rowOk (by rw [hasE_len];exact hlt) fun _=>rfl
    repeat' (first|refine z0 ?_|apply ds_nil|refine z5 ?_|refine z6 ?_|refine z10 ?_|apply dw_seq2|refine z16 ?_|refine z20 ?_|apply dw_block|apply dw_skip|apply dw_exit|apply dw_ret|apply thenD_n|apply thenD_e|apply inB_n|refine z17 ?_|(refine z23 ?_ ?_ <;> intro hg)|fail)
    all_goals try (exfalso;omega)
    exact⟨i + 1,hi,ent_ren id ⟨rfl,rfl,rfl,rfl,rfl,rfl,trivial⟩ ⟨rfl,rfl,by rw [ht,o1,List.map_set];rfl,by rw [ht,o2',List.map_set];rfl,rfl,rfl,rfl,trivial⟩ rfl rfl rfl rfl rfl rfl,by omega⟩
   ·rw [List.take_of_length_le (by omega),g4]
    repeat' (first|refine z0 ?_|apply ds_nil|refine z5 ?_|refine z6 ?_|refine z10 ?_|apply dw_seq2|refine z16 ?_|refine z20 ?_|apply dw_block|apply dw_skip|apply dw_exit|apply dw_ret|apply thenD_n|apply thenD_e|apply inB_n|refine z17 ?_|(refine z23 ?_ ?_ <;> intro hg)|fail)
    all_goals try (exfalso;omega)
    exact⟨.inl rfl,_,rfl,id,6,_,goH r S rest e o2,rfl,⟨rfl,rfl,rfl,rfl,rfl,rfl,trivial⟩,rfl,rfl,rfl,rfl,rfl,rfl,rfl,rfl,rfl⟩
theorem sum_takeL {α:Type} {ls:List (List α)} {i:Nat} (hi:i < ls.length):((ls.take (i + 1)).map List.length).sum=((ls.take i).map List.length).sum + ls[i].length:=by
 rw [List.take_succ_eq_append_getElem hi,List.map_append,List.sum_append];rfl
theorem sum_leL {α:Type} (ls:List (List α)) (i:Nat):((ls.take i).map List.length).sum≤(ls.map List.length).sum:=by
 have h:(ls.map List.length).sum=((ls.take i).map List.length).sum + ((ls.drop i).map List.length).sum:=by rw [← List.sum_append,← List.map_append,List.take_append_drop]
 omega
end Go.Proofs.YtapciiffpnociadGreat
