/- Several texts in one: ScoC ScoD ScoF GxOrd RuP RuA RuQ RuB RuR RuC RuD. Condition: none. -/
import Derived.Test.YtapciiffpnociadGreatA17
import Derived.Test.YtapciiffpnociadGreatA13
import Derived.Test.YtapciiffpnociadGreatA02
import Derived.Test.YtapciiffpnociadGreatA11
import Derived.Test.YtapciiffpnociadGreatA10
namespace Go.Proofs.YtapciiffpnociadGreat
open Go Go.RowKit
attribute [local irreducible] DW DS DL DQ Ev FnOk FnP ej cd DT
abbrev FnW (f:FuncId) (args:List SV) (J k:Nat) (H:Hp) (R:Nat→SV→Hp→Prop):Prop:=FnOk false Tryz.prog tab cn f args J k H R
abbrev bsH (bs:List Bool):Hp:=[(0,.blk 95 [.row 1]),(1,.row 4 1 (bs.map encBl))]
theorem isT_pos {bs:List Bool} {t:Trm} (h:t.var < 0):isT bs t=true:=by unfold isT;rw [decide_eq_true h];rfl
theorem isT_neg {bs:List Bool} {t:Trm} (h:¬ t.var < 0) (h2:t.var < (bs.length:Int)):isT bs t=bs[t.var.toNat]'(by omega):=by
 unfold isT
 rw [decide_eq_false h,Bool.false_or,List.getD,List.getElem?_eq_getElem (by omega)];rfl
set_option maxHeartbeats 8000000 in
theorem isFn (bs:List Bool) (t:Trm) (hok:okT bs.length t):FnW 261 [elTrm t,.loc 0 0] 1 2 (bsH bs) (fun k2 res H2=>k2=2∧res = .d (.bool (isT bs t))∧H2=bsH bs):=by
 refine co _ Tryz.func261 rfl rfl (by kernel_rfl) ?_
 intro O w0 E0 β0
 have la:(bs.map encBl).length=bs.length:=List.length_map _
 unfold okT at hok
 by_cases hneg:t.var < 0
 ·rw [isT_pos hneg]
  repeat' (first|refine z0 ?_|refine z12 ?_|apply ag|apply ae|refine z16 ?_|apply aj|apply aa|refine z1 ?_|((fail_if_success (apply bk;exact rfl));apply bm;exact rfl;exact rfl;exact rfl;all_goals intro hg))
  ·exact⟨.inl rfl,_,rfl,id,2,.d (.bool true),bsH bs,rfl,⟨rfl,rfl,trivial⟩,rfl,rfl,rfl,rfl,rfl,rfl,rfl,rfl,rfl⟩
  all_goals exact absurd hneg hg
 ·rw [isT_neg hneg hok]
  repeat' (first|refine z0 ?_|refine z12 ?_|apply ag|apply ae|refine z16 ?_|apply aj|apply aa|refine z1 ?_|((fail_if_success (apply bk;exact rfl));apply bm;exact rfl;exact rfl;exact rfl;all_goals intro hg))
  ·exact absurd hg hneg
  all_goals exact⟨.inl rfl,_,rfl,id,2,.d (.bool _),bsH bs,rfl,⟨rfl,rfl,trivial⟩,rfl,rfl,rfl,rfl,rfl,rfl,rfl,rfl,rfl⟩
def Fl (b0 bs:List Bool) (ch:Bool):Prop:=bs.length=b0.length∧bs.count false≤b0.count false∧(ch=false→bs=b0)∧(ch=true→bs.count false < b0.count false)
theorem Fl.refl (b0:List Bool):Fl b0 b0 false:=⟨rfl,Nat.le_refl _,fun _=>rfl,fun h=>by cases h⟩
theorem count_set:∀ {bs:List Bool} {i:Nat} (_:i < bs.length),bs[i]? = some false→(bs.set i true).count false + 1=bs.count false
 | [],_,h,_=>by simp at h
 | b::bs,0,_,hb=>by simp at hb;subst hb;simp
 | b::bs,i + 1,h,hb=>by
  have:=count_set (bs:=bs) (i:=i) (by simpa using h) (by simpa using hb)
  rw [List.set_cons_succ,List.count_cons,List.count_cons]
  omega
theorem setT_count {bs:List Bool} {t:Trm} (hok:okT bs.length t) (h:isT bs t=false):(setT bs t).count false + 1=bs.count false∧¬ t.var < 0:=by
 have hn:¬ t.var < 0:=fun hn=>by rw [isT_pos hn] at h;cases h
 unfold okT at hok
 rw [isT_neg hn hok] at h
 unfold setT
 rw [if_neg hn]
 exact⟨count_set (by omega) (by rw [List.getElem?_eq_getElem (by omega),h]),hn⟩
theorem Fl.step {b0 bs:List Bool} {ch:Bool} {t:Trm} (h:Fl b0 bs ch) (hok:okT bs.length t):Fl b0 (setT bs t) (ch || !isT bs t):=by
 obtain⟨h1,h2,h3,h4⟩:=h
 cases ht:isT bs t with
 | true=>rw [setT_same ht,Bool.not_true,Bool.or_false];exact⟨h1,h2,h3,h4⟩
 | false =>
  obtain⟨g1,_⟩:=setT_count hok ht
  rw [Bool.not_false,Bool.or_true]
  exact⟨by rw [setT_len,h1],by omega,fun h=>by (cases h),fun _=>by omega⟩
abbrev ruleB (r:Rul):HB:=.blk 64 [.d (.int .i64 r.pred),.d (.slice 2 (r.terms.map br)),.d (.int .i64 r.fold),.d (.slice 4 (r.body.map bp)),.d (.int .i64 r.vars)]
abbrev bndH (r:Rul) (bs:List Bool):Hp:=[(0,ruleB r),(1,.row 4 1 (bs.map encBl)),(2,.blk 95 [.row 1])]
abbrev bndL (ch:Bool):Sl:=[(1,.loc 0 0),(2,.nils),(3,.loc 2 0),(4,.fn 261 [.loc 2 0]),(5,.d (.bool ch))]
theorem fires4 {bs:List Bool} {l:Ltl} (k1:¬ l.kind=1) (k4:l.kind=4) (h:l.terms.length=3):cw bs l=(isT bs (l.terms[0]'(by omega)) && isT bs (l.terms[1]'(by omega))):=by
 unfold cw
 rw [decide_eq_false k1,decide_eq_true k4]
 obtain⟨kind,op,pred,terms⟩:=l
 dsimp only at h ⊢
 match terms,h with
 | [a,b,c],_=>simp
theorem litTs_sub {l:Ltl} {t:Trm} (h:t∈dz l):t∈l.terms:=by
 unfold dz at h
 split at h
 ·exact h
 ·exact List.mem_of_mem_drop h
theorem foldl_take {α β:Type} (f:β→α→β) (b:β) {l:List α} {i:Nat} (h:i < l.length):(l.take (i + 1)).foldl f b=f ((l.take i).foldl f b) l[i]:=by
 rw [List.take_succ_eq_append_getElem h,List.foldl_append];rfl
theorem bLits_len:∀ (l:List Ltl) (bs:List Bool),(l.foldl bLit bs).length=bs.length:=bRound_len
set_option maxHeartbeats 8000000 in
theorem bound_fn (r:Rul) (h0:0≤r.vars) (h8:r.vars≤8) (hok:∀ l∈r.body,∀ t∈l.terms,okT r.vars.toNat t) (h3:∀ l∈r.body,l.kind=4→l.terms.length=3) :
  Fn 216 [elRul r] (fun res=>res = .d (.slice 1 ((boundL r).map encBl))):=by
 refine ak _ Tryz.func216 rfl rfl (by kernel_rfl) ?_
 intro O w0 E0 β0
 have lb:(r.body.map bp).length=r.body.length:=List.length_map _
 refine dw_lenA 0 3 rfl rfl (fun hk=>?_)
 repeat' (first|refine z0 ?_|apply ag|apply ae|refine z16 ?_|apply aa|refine z1 ?_|fail)
 refine ds_mk ((List.replicate r.vars.toNat false).map encBl) rfl rfl (Int.toNat_of_nonneg h0).symm rfl rfl rfl rfl rfl rfl (by show 1 * _≤_;omega) (by unfold maxLen;omega) (by rw [List.map_replicate];rfl) rfl rfl ?_
 repeat' (first|refine z0 ?_|apply ag|apply ae|refine z16 ?_|apply ah|apply aa|refine z1 ?_|refine z3 ?_|fail)
 refine bh (ι:=Bool × List Bool × Nat) (fun x=>⟨3,bndL x.1,bndH r x.2.1⟩)
  (fun x=>x.2.1=bIter r.body x.2.2 (List.replicate r.vars.toNat false)∧(x.1=false→bRound r.body x.2.1=x.2.1)) (fun x=>2 * x.2.1.count false + (if x.1 then 1 else 0))
  (true,List.replicate r.vars.toNat false,0) ⟨rfl,fun h=>by cases h⟩ (ap id ⟨rfl,rfl,rfl,rfl,rfl,trivial⟩ ⟨rfl,rfl,rfl,trivial⟩ rfl rfl rfl rfl rfl rfl) ?_
 rintro⟨ch,b0,m⟩ ⟨g1,g2⟩
 dsimp only at g1 g2 ⊢
 have hlen:b0.length=r.vars.toNat:=by rw [g1,bIter_len,List.length_replicate]
 cases ch with
 | false =>
  repeat' (first|refine z0 ?_|apply ag|apply ae|refine z16 ?_|apply au|refine z19 ?_|apply aa|apply aq|refine z17 ?_|fail)
  refine bg (di 2 rfl rfl rfl) ?_
  repeat' (apply aj)
  have hb:b0=boundL r:=by
   rw [g1]
   exact rest_is (fun l hl t ht=>hok l hl t (litTs_sub ht)) (g1▸g2 rfl)
  rw [← hb]
  exact⟨.inl rfl,_,rfl,rfl,rfl⟩
 | true =>
  repeat' (first|refine z0 ?_|apply ag|apply ae|refine z16 ?_|apply ah|apply ai|refine z18 ?_|apply aa)
  refine bh (ι:=Nat × List Bool × Bool) (fun x=>⟨3,(17,.d (.slice 4 (r.body.map bp)))::(18,.d (.int .i64 (r.body.map bp).length))::(19,.d (.int .i64 x.1))::bndL x.2.2,bndH r x.2.1⟩)
   (fun x=>x.1≤r.body.length∧x.2.1=(r.body.take x.1).foldl bLit b0∧Fl b0 x.2.1 x.2.2) (fun x=>r.body.length - x.1)
   (0,b0,false) ⟨Nat.zero_le _,rfl,Fl.refl b0⟩ (ap id ⟨rfl,rfl,rfl,rfl,rfl,rfl,rfl,rfl,trivial⟩ ⟨rfl,rfl,rfl,trivial⟩ rfl rfl rfl rfl rfl rfl) ?_
  rintro⟨i,bs,ch⟩ ⟨f1,f2,f3⟩
  dsimp only at f1 f2 f3 ⊢
  have hbl:bs.length=r.vars.toNat:=by rw [f2,bLits_len,hlen]
  by_cases hi:i < r.body.length
  ·have hlok:=hok r.body[i] (List.getElem_mem hi)
   have h3':=h3 r.body[i] (List.getElem_mem hi)
   have hf:bLit bs r.body[i]=(r.body.take (i + 1)).foldl bLit b0:=by rw [foldl_take bLit b0 hi,← f2]
   repeat' ((fail_if_success (apply dw_stop 4));(first|refine z0 ?_|apply ag|apply ae|refine z16 ?_|apply ah|apply ai|apply au|apply aa|apply aq|apply bf|refine z17 ?_|refine z1 ?_|refine z3 ?_|(refine z23 ?_ ?_ <;> intro hg)|fail))
   ·generalize r.body[i]=l at hlok h3' hf ⊢
    refine dw_cut (ι:=List Trm) (fun ts=>⟨4,(8,.d (.slice 2 (ts.map br)))::(17,.d (.slice 4 (r.body.map bp)))::(18,.d (.int .i64 (r.body.map bp).length))::(19,.d (.int .i64 i))::bndL ch,bndH r bs⟩) (fun ts=>ts=if cw bs l then dz l else []) ?_ ?_
    ·have ll:(l.terms.map br).length=l.terms.length:=List.length_map _
     by_cases k1:l.kind=1
     ·repeat' (first|refine z0 ?_|refine z12 ?_|apply ag|apply ae|refine z16 ?_|apply ah|apply ai|refine z19 ?_|apply aa|apply bf|(refine z23 ?_ ?_ <;> intro hg)|((fail_if_success (apply bk;exact rfl));apply bm;exact rfl;exact rfl;exact rfl;all_goals intro hg))
      ·exact⟨l.terms,by unfold cw dz;simp [k1],ap id ⟨rfl,rfl,rfl,rfl,rfl,rfl,rfl,rfl,rfl,trivial⟩ ⟨rfl,rfl,rfl,trivial⟩ rfl rfl rfl rfl rfl rfl⟩
      all_goals (exfalso;omega)
     ·by_cases k4:l.kind=4
      ·have h3l:=h3' k4
       have hlok':∀ t∈l.terms,okT bs.length t:=by rw [hbl];exact hlok
       have hf4:=fires4 (bs:=bs) k1 k4 h3l
       have hl4:dz l=l.terms.drop 2:=by unfold dz;rw [if_neg k1]
       repeat' (first|refine z0 ?_|refine z12 ?_|apply ag|apply ae|refine z16 ?_|apply ah|apply ai|refine z19 ?_|apply aa|apply bf|(refine z23 ?_ ?_ <;> intro hg)|((fail_if_success (apply bk;exact rfl));apply bm;exact rfl;exact rfl;exact rfl;all_goals intro hg))
       all_goals try (exfalso;omega)
       refine ds_callVF (fun j=>match j with|0=>2|_=>1) (isFn bs (l.terms[0]'(by omega)) (hlok' _ (List.getElem_mem _))) rfl rfl rfl rfl rfl rfl ⟨rfl,rfl,trivial⟩ rfl rfl rfl rfl rfl rfl ?_ ?_
       ·rintro k2 res H2 ⟨rfl,rfl,rfl⟩
        exact⟨rfl,rfl⟩
       rintro k2 res H2 ⟨rfl,rfl,rfl⟩
       change DS _ _ _ _ _ _ _ _
       rw [hf4]
       generalize isT bs (l.terms[0]'(by omega))=q0
       cases q0 with
       | false =>
        repeat' (first|refine z0 ?_|refine z12 ?_|apply ag|apply ai|refine z19 ?_|apply aa|apply bf)
        all_goals exact⟨[],rfl,ent_trans (df 8 2 rfl) (ap (fun j=>match j with|0=>0|1=>5|j=>j) ⟨rfl,rfl,rfl,rfl,rfl,rfl,rfl,rfl,rfl,trivial⟩ ⟨rfl,rfl,rfl,trivial⟩ rfl rfl rfl rfl rfl rfl)⟩
       | true =>
        repeat' refine z0 ?_
        refine ds_callVF (fun j=>match j with|0=>2|_=>5) (isFn bs (l.terms[1]'(by omega)) (hlok' _ (List.getElem_mem _))) rfl rfl rfl rfl rfl rfl ⟨rfl,rfl,trivial⟩ rfl rfl rfl rfl rfl rfl ?_ ?_
        ·rintro k2 res H2 ⟨rfl,rfl,rfl⟩
         exact⟨rfl,rfl⟩
        rintro k2 res H2 ⟨rfl,rfl,rfl⟩
        change DS _ _ _ _ _ _ _ _
        generalize isT bs (l.terms[1]'(by omega))=q1
        cases q1 with
        | false =>
         repeat' (first|refine z0 ?_|apply ag|apply ai|refine z19 ?_|apply aa|apply bf)
         all_goals exact⟨[],rfl,ent_trans (df 8 2 rfl) (ap (fun j=>match j with|0=>0|1=>7|j=>j) ⟨rfl,rfl,rfl,rfl,rfl,rfl,rfl,rfl,rfl,trivial⟩ ⟨rfl,rfl,rfl,trivial⟩ rfl rfl rfl rfl rfl rfl)⟩
        | true =>
         repeat' (first|(apply ds_slD;exact rfl;exact rfl;exact rfl;exact rfl;exact rfl;exact rfl;(refine⟨?_,?_,?_⟩ <;> (omega));((with_reducible apply hv_drop);(exact dn _));exact rfl;exact rfl)|refine z0 ?_|apply ag|refine z16 ?_|refine z18 ?_|apply aa|apply bf)
         all_goals exact⟨(l.terms.take (l.terms.map br).length).drop 2,by rw [List.take_of_length_le (by omega),hl4];rfl,ap (fun j=>match j with|0=>0|1=>7|j=>j) ⟨rfl,rfl,rfl,rfl,rfl,rfl,rfl,rfl,rfl,trivial⟩ ⟨rfl,rfl,rfl,trivial⟩ rfl rfl rfl rfl rfl rfl⟩
      ·have hf5:cw bs l=false:=by unfold cw;rw [decide_eq_false k1,decide_eq_false k4];rfl
       repeat' (first|refine z0 ?_|refine z12 ?_|apply ag|apply ae|refine z16 ?_|apply ah|apply ai|refine z19 ?_|apply aa|apply bf|(refine z23 ?_ ?_ <;> intro hg)|((fail_if_success (apply bk;exact rfl));apply bm;exact rfl;exact rfl;exact rfl;all_goals intro hg))
       all_goals first
        | exact absurd hg k1
        | exact absurd hg k4
        | exact⟨[],by rw [hf5];rfl,ent_trans (df 8 2 rfl) (ap id ⟨rfl,rfl,rfl,rfl,rfl,rfl,rfl,rfl,rfl,trivial⟩ ⟨rfl,rfl,rfl,trivial⟩ rfl rfl rfl rfl rfl rfl)⟩
    ·rintro ts hts
     have hbs:ts.foldl setT bs=(r.body.take (i + 1)).foldl bLit b0:=by
      rw [← hf,hts]
      unfold bLit
      split <;> rfl
     have htok:∀ t∈ts,okT bs.length t:=by
      intro t ht
      rw [hbl]
      rw [hts] at ht
      split at ht
      ·exact hlok t (litTs_sub ht)
      ·simp at ht
     clear hts
     have lt:(ts.map br).length=ts.length:=List.length_map _
     refine dw_len (t:=8) rfl (fun hkt=>?_)
     repeat' (first|refine z0 ?_|apply ag|apply ae|refine z16 ?_|apply ah|apply aa)
     refine bh (ι:=Nat × List Bool × Bool) (fun x=>⟨4,(52,.d (.slice 2 (ts.map br)))::(53,.d (.int .i64 (ts.map br).length))::(54,.d (.int .i64 x.1))::(17,.d (.slice 4 (r.body.map bp)))::(18,.d (.int .i64 (r.body.map bp).length))::(19,.d (.int .i64 i))::bndL x.2.2,bndH r x.2.1⟩)
      (fun x=>x.1≤ts.length∧x.2.1=(ts.take x.1).foldl setT bs∧Fl b0 x.2.1 x.2.2) (fun x=>ts.length - x.1)
      (0,bs,ch) ⟨Nat.zero_le _,rfl,f3⟩ (ap id ⟨rfl,rfl,rfl,rfl,rfl,rfl,rfl,rfl,rfl,rfl,rfl,trivial⟩ ⟨rfl,rfl,rfl,trivial⟩ rfl rfl rfl rfl rfl rfl) ?_
     rintro⟨j,bj,cj⟩ ⟨e1,e2,e3⟩
     dsimp only at e1 e2 e3 ⊢
     have hjl:bj.length=bs.length:=by rw [e2,setTs_len]
     by_cases hj:j < ts.length
     ·repeat' (first|refine z0 ?_|apply ag|apply ae|refine z16 ?_|apply ah|apply ai|apply au|apply aa|apply aq|apply bf|refine z17 ?_|refine z1 ?_|refine z3 ?_|(refine z23 ?_ ?_ <;> intro hg)|fail)
      all_goals try (exfalso;omega)
      have hq:=htok ts[j] (List.getElem_mem hj)
      rw [← hjl] at hq
      have e4:=e3.step hq
      have e5:(ts.take (j + 1)).foldl setT bs=setT bj ts[j]:=by rw [foldl_take setT bs hj,← e2]
      refine ds_callVF (fun j=>match j with|0=>2|_=>1) (isFn bj ts[j] hq) rfl rfl rfl rfl rfl rfl ⟨rfl,rfl,trivial⟩ rfl rfl rfl rfl rfl rfl ?_ ?_
      ·rintro k2 res H2 ⟨rfl,rfl,rfl⟩
       exact⟨rfl,rfl⟩
      rintro k2 res H2 ⟨rfl,rfl,rfl⟩
      change DS _ _ _ _ _ _ _ _
      have lbj:(bj.map encBl).length=bj.length:=List.length_map _
      cases hb:isT bj ts[j] with
      | true =>
       rw [hb,Bool.not_true,Bool.or_false,setT_same hb] at e4
       rw [setT_same hb] at e5
       repeat' (first|refine z0 ?_|apply ag|refine z16 ?_|apply ai|refine z19 ?_|apply aa|apply bf)
       exact⟨(j + 1,bj,cj),⟨by omega,e5.symm,e4⟩,ap (fun j=>match j with|0=>0|1=>6|j=>j) ⟨rfl,rfl,rfl,rfl,rfl,rfl,rfl,rfl,rfl,rfl,rfl,trivial⟩ ⟨rfl,rfl,rfl,trivial⟩ rfl rfl rfl rfl rfl rfl,by show ts.length - (j + 1) < ts.length - j;omega⟩
      | false =>
       obtain⟨_,hneg⟩:=setT_count hq hb
       have hset:setT bj ts[j]=bj.set ts[j].var.toNat true:=by unfold setT;rw [if_neg hneg]
       rw [hb,Bool.not_false,Bool.or_true,hset] at e4
       rw [hset] at e5
       unfold okT at hq
       repeat' (first|refine z0 ?_|apply ag|(apply ds_stP;exact rfl;exact rfl;(apply hv_get;(omega));exact rfl;exact rfl;(exact hv_set rfl);exact rfl;exact rfl;exact rfl;exact rfl;exact rfl;exact rfl)|apply ae|refine z16 ?_|refine z18 ?_|apply aa|apply bf)
       exact⟨(j + 1,bj.set ts[j].var.toNat true,true),⟨by omega,e5.symm,e4⟩,ap (fun j=>match j with|0=>0|1=>6|j=>j) ⟨rfl,rfl,rfl,rfl,rfl,rfl,rfl,rfl,rfl,rfl,rfl,trivial⟩ ⟨rfl,rfl,rfl,trivial⟩ rfl rfl rfl rfl rfl rfl,by show ts.length - (j + 1) < ts.length - j;omega⟩
     ·repeat' (first|refine z0 ?_|apply ag|apply ae|refine z16 ?_|apply ah|apply ai|apply au|apply aa|apply aq|apply bf|refine z17 ?_|refine z1 ?_|refine z3 ?_|(refine z23 ?_ ?_ <;> intro hg)|fail)
      all_goals try (exfalso;omega)
      ·refine⟨(i + 1,bj,cj),⟨by omega,?_,e3⟩,ap id ⟨rfl,rfl,rfl,rfl,rfl,rfl,rfl,rfl,trivial⟩ ⟨rfl,rfl,rfl,trivial⟩ rfl rfl rfl rfl rfl rfl,by show r.body.length - (i + 1) < r.body.length - i;omega⟩
       dsimp only
       rw [← hbs,e2,List.take_of_length_le (by omega)]
   ·exfalso;omega
  ·repeat' (first|refine z0 ?_|refine z12 ?_|apply ag|apply ae|refine z16 ?_|apply ah|apply ai|apply au|refine z19 ?_|apply aa|apply aq|apply bf|refine z17 ?_|refine z1 ?_|refine z3 ?_|(refine z23 ?_ ?_ <;> intro hg)|((fail_if_success (apply bk;exact rfl));apply bm;exact rfl;exact rfl;exact rfl;all_goals intro hg))
   all_goals try (exfalso;omega)
   ·refine⟨(ch,bs,m + 1),⟨?_,?_⟩,ap id ⟨rfl,rfl,rfl,rfl,rfl,trivial⟩ ⟨rfl,rfl,rfl,trivial⟩ rfl rfl rfl rfl rfl rfl,?_⟩
    ·dsimp only
     rw [bIter_succ,← g1,f2,List.take_of_length_le (by omega)];rfl
    ·rintro rfl
     have hb:=f3.2.2.1 rfl
     have hr:bs=bRound r.body b0:=by rw [f2,List.take_of_length_le (by omega)];rfl
     show bRound r.body bs=bs
     rw [hb]
     rw [hb] at hr
     exact hr.symm
    ·show 2 * bs.count false + (if ch=true then 1 else 0) < 2 * b0.count false + (if true=true then 1 else 0)
     have h1:=f3.2.1
     have h2:=f3.2.2.2
     cases ch with
     | false=>simp;omega
     | true=>have:=h2 rfl;simp;omega
theorem firstL_zero {α:Type} {f:α→Int}:∀ {l:List α},cr f l=0→∀ x∈l,f x=0
 | [],_,x,hx=>by simp at hx
 | y::l,h,x,hx=>by
  unfold cr at h
  split at h
  ·rename_i hn;exact absurd h hn
  ·rename_i hn
   rcases List.mem_cons.1 hx with rfl|hx
   ·exact Decidable.not_not.1 hn
   ·exact firstL_zero h x hx
theorem termE_ok {vars:Int} {t:Trm} (h0:0≤vars) (h:termE vars t=0):okT vars.toNat t:=by
 unfold termE at h
 split at h
 ·cases h
 ·rename_i hn
  rw [Bool.not_eq_false] at hn
  have:=inR_spec hn
  unfold okT
  omega
theorem litE_ok {ar:List Int} {vars:Int} {l:Ltl} (h0:0≤vars) (h:litE ar vars l=0):(∀ t∈l.terms,okT vars.toNat t)∧(l.kind=4→l.terms.length=3):=by
 have ht:termsE vars l.terms=0→∀ t∈l.terms,okT vars.toNat t:=fun h t ht=>termE_ok h0 (firstL_zero h t ht)
 unfold litE at h
 split at h
 ·cases h
 split at h
 ·cases h
 split at h
 ·split at h
  ·cases h
  split at h
  ·cases h
  exact⟨ht h,fun hk=>by omega⟩
 ·split at h
  ·cases h
  exact⟨ht h,fun hk=>by omega⟩
theorem any_false (l:List Bool):(l.any fun x=>eqB x false) = !l.all id:=by
 induction l with
 | nil=>rfl
 | cons b l ih=>rw [List.any_cons,List.all_cons,ih];cases b <;> rfl
abbrev prgB (p:Prg):HB:=.blk 26 [.d (.slice 1 (p.arity.map bi)),.d (.slice 1 (p.names.map encT)),.d (.slice 5 (p.rules.map eb))]
set_option maxHeartbeats 8000000 in
theorem rule_fn (p:Prg) (r:Rul):Fn 159 [elPrg p,elRul r] (fun x=>x = .d (.int .i64 (ruleE p.arity r))):=by
 refine ak _ Tryz.func159 rfl rfl (by kernel_rfl) ?_
 intro O w0 E0 β0
 have la:(p.arity.map bi).length=p.arity.length:=List.length_map _
 have lb:(r.terms.map br).length=r.terms.length:=List.length_map _
 have lc:(r.body.map bp).length=r.body.length:=List.length_map _
 refine dw_lenA 0 0 rfl rfl (fun hk=>?_)
 refine dw_lenA 1 1 rfl rfl (fun hk2=>?_)
 refine dw_lenA 1 3 rfl rfl (fun hk3=>?_)
 have w1:=ez r.pred 0 (((p.arity.map bi).length:Int) - 1)
 have w2:=ez r.vars 0 8
 have w3:=ez r.fold 0 4
 unfold ruleE
 rw [← la,← lb,← lc]
 by_cases hp:inR r.pred 0 (((p.arity.map bi).length:Int) - 1)=true
 ·have hp':=inR_spec hp
  have hA:=arity_at (p:=p) (n:=r.pred) (by omega) (by omega)
  rw [hp] at w1 ⊢
  rw [if_neg (show ¬ (true=false) by decide),hA]
  by_cases hv:inR r.vars 0 8=true
  ·have hv':=inR_spec hv
   rw [hv] at w2 ⊢
   rw [if_neg (show ¬ (true=false) by decide)]
   have w4:=terms_fn r.terms r.vars hv'.1 hv'.2
   clear hv hp hA
   have w5:=fun l=>lit_fn p l r.vars hv'.1 hv'.2
   generalize termsE r.vars r.terms=te at w4 ⊢
   generalize inR r.fold 0 4=fo at w3 ⊢
   repeat' (first|refine z0 ?_|refine z12 ?_|apply ag|refine z5 ?_|refine z10 ?_|apply ae|refine z16 ?_|refine z20 ?_|apply ah|apply ai|apply aj|refine z18 ?_|refine z19 ?_|apply aa|apply av|apply bf|apply bn|refine z21 ?_ (hc:=by apply w1)|refine z21 ?_ (hc:=by apply w2)|refine z21 ?_ (hc:=by apply w3)|refine z21 ?_ (hc:=by apply w4)|refine z1 ?_|(refine z23 ?_ ?_ <;> intro hg)|(apply cy;exact rfl;all_goals intro hg)|((fail_if_success (apply bk;exact rfl));apply bm;exact rfl;exact rfl;exact rfl;all_goals intro hg))
   all_goals try (refine b9 rfl ?_;(repeat' split) <;> (first|rfl|(exfalso;omega)|(exfalso;simp_all;done)))
   all_goals
    have hfin:∀ e,cr (litE p.arity r.vars) r.body=e→(if (((r.terms.map br).length:Nat):Int)≠p.arity[r.pred.toNat]'(by omega) then 1 else if te≠0 then te else if fo=false then 7 else if r.fold≠0∧((r.terms.map br).length=0∨(r.body.map bp).length=0) then 1 else if 4 < (r.body.map bp).length then 2 else if cr (litE p.arity r.vars) r.body≠0 then cr (litE p.arity r.vars) r.body else if safeB r=false then 4 else 0)=if e≠0 then e else if safeB r=false then 4 else 0:=by
     rintro e rfl
     (repeat' split) <;> (first|rfl|(exfalso;omega)|(exfalso;simp_all;done))
    generalize (if (((r.terms.map br).length:Nat):Int)≠p.arity[r.pred.toNat]'(by omega) then 1 else if te≠0 then te else if fo=false then 7 else if r.fold≠0∧((r.terms.map br).length=0∨(r.body.map bp).length=0) then 1 else if 4 < (r.body.map bp).length then 2 else if cr (litE p.arity r.vars) r.body≠0 then cr (litE p.arity r.vars) r.body else if safeB r=false then 4 else 0)=res at hfin ⊢
    refine bh (ι:=Nat) (fun i=>⟨2,[(2,.loc 0 0),(3,.loc 1 0),(4,.d (.int .i64 0)),(69,.d (.slice 4 (r.body.map bp))),(70,.d (.int .i64 (r.body.map bp).length)),(71,.d (.int .i64 i))],[(0,prgB p),(1,ruleB r)]⟩)
     (fun i=>i≤r.body.length∧cr (litE p.arity r.vars) r.body=cr (litE p.arity r.vars) (r.body.drop i)) (fun i=>r.body.length - i) 0 ⟨Nat.zero_le _,rfl⟩ (ap id ⟨rfl,rfl,rfl,rfl,rfl,rfl,trivial⟩ ⟨rfl,rfl,trivial⟩ rfl rfl rfl rfl rfl rfl) ?_
    rintro i ⟨g1,g2⟩
    by_cases hi:i < r.body.length
    ·rw [firstL_step hi] at g2
     have w6:=w5 r.body[i]
     generalize litE p.arity r.vars r.body[i]=le at w6 g2
     repeat' (first|refine z0 ?_|apply ag|apply ae|refine z16 ?_|apply ah|apply ai|apply au|apply aj|apply aa|apply aq|apply av|apply bf|apply bn|refine z17 ?_|refine z21 ?_ (hc:=by apply w6)|refine z1 ?_|refine z3 ?_|(refine z23 ?_ ?_ <;> intro hg)|fail)
     all_goals first
      | (exfalso;omega)
      | (refine b9 rfl ?_;rw [hfin le (by rw [g2,if_pos (by assumption)]),if_pos (by assumption)];done)
      | exact⟨i + 1,⟨by omega,by rw [g2,if_neg (by assumption)]⟩,ap id ⟨rfl,rfl,rfl,rfl,rfl,rfl,trivial⟩ ⟨rfl,rfl,trivial⟩ rfl rfl rfl rfl rfl rfl,by show r.body.length - (i + 1) < r.body.length - i;omega⟩
    ·rw [firstL_end (by omega)] at g2
     have hall:=firstL_zero g2
     have w7:=bound_fn r hv'.1 hv'.2 (fun l hl=>(litE_ok hv'.1 (hall l hl)).1) (fun l hl=>(litE_ok hv'.1 (hall l hl)).2)
     have w8:=containsB_fn false (boundL r)
     rw [any_false] at w8
     rw [hfin 0 g2,if_neg (by decide)]
     unfold safeB
     generalize (boundL r).all id=sb at w8 ⊢
     repeat' (first|refine z0 ?_|apply ag|apply ae|refine z16 ?_|apply ah|apply ai|apply au|apply aj|apply aa|apply aq|apply av|refine z17 ?_|refine z21 ?_ (hc:=by apply w7)|refine z21 ?_ (hc:=by apply w8)|refine z1 ?_|refine z3 ?_|(refine z23 ?_ ?_ <;> intro hg)|(apply cy;exact rfl;all_goals intro hg))
     all_goals first
      | (exfalso;omega)
      | (refine b9 rfl ?_;simp_all;done)
  ·rw [Bool.not_eq_true] at hv
   rw [hv] at w2 ⊢
   repeat' (first|refine z0 ?_|apply ag|refine z5 ?_|refine z10 ?_|apply ae|refine z16 ?_|refine z20 ?_|apply ah|apply aj|refine z18 ?_|refine z19 ?_|apply aa|apply av|apply bn|refine z21 ?_ (hc:=by apply w1)|refine z21 ?_ (hc:=by apply w2)|refine z1 ?_|(refine z23 ?_ ?_ <;> intro hg)|fail)
   all_goals exact b9 rfl (by simp_all)
 ·rw [Bool.not_eq_true] at hp
  rw [hp] at w1 ⊢
  rw [if_pos rfl]
  repeat' (first|refine z0 ?_|apply ag|apply ae|refine z16 ?_|apply ah|apply aj|refine z18 ?_|apply aa|apply av|apply bn|refine z21 ?_ (hc:=by apply w1)|refine z1 ?_|fail)
  all_goals exact b9 rfl rfl
set_option maxHeartbeats 8000000 in
theorem check_fn (p:Prg):Fn 109 [elPrg p] (fun x=>x = .d (.int .i64 (dh nameS p))):=by
 refine ak _ Tryz.func109 rfl rfl (by kernel_rfl) ?_
 intro O w0 E0 β0
 have la:(p.arity.map bi).length=p.arity.length:=List.length_map _
 have lb:(p.names.map encT).length=p.names.length:=List.length_map _
 have lc:(p.rules.map eb).length=p.rules.length:=List.length_map _
 refine dw_lenA 0 0 rfl rfl (fun hk=>?_)
 refine dw_lenA 0 2 rfl rfl (fun hk2=>?_)
 unfold dh
 by_cases h1:10 < p.arity.length∨12 < p.rules.length
 ·rw [if_pos h1]
  repeat' (first|refine z0 ?_|refine z12 ?_|apply ag|apply ae|refine z16 ?_|apply ah|apply ai|apply aj|refine z18 ?_|apply aa|apply av|apply bf|apply bn|refine z1 ?_|(refine z23 ?_ ?_ <;> intro hg)|((fail_if_success (apply bk;exact rfl));apply bm;exact rfl;exact rfl;exact rfl;all_goals intro hg))
  all_goals first
   | (exfalso;omega)
   | exact b9 rfl rfl
 ·rw [if_neg h1]
  by_cases h2:p.names.length≠p.arity.length
  ·rw [if_pos h2]
   repeat' (first|refine z0 ?_|refine z12 ?_|apply ag|apply ae|refine z16 ?_|apply ah|apply ai|apply aj|refine z18 ?_|apply aa|apply av|apply bf|apply bn|refine z1 ?_|(refine z23 ?_ ?_ <;> intro hg)|((fail_if_success (apply bk;exact rfl));apply bm;exact rfl;exact rfl;exact rfl;all_goals intro hg))
   all_goals first
    | (exfalso;omega)
    | exact b9 rfl rfl
  ·rw [if_neg h2]
   have w1:=preds_fn p (by omega)
   generalize firstI (nameE nameS p) 0 p.names.length=ne at w1 ⊢
   repeat' (first|refine z0 ?_|refine z12 ?_|apply ag|apply ae|refine z16 ?_|apply ah|apply ai|apply aj|refine z18 ?_|apply aa|apply av|apply bf|apply bn|refine z21 ?_ (hc:=by apply w1)|refine z1 ?_|(refine z23 ?_ ?_ <;> intro hg)|((fail_if_success (apply bk;exact rfl));apply bm;exact rfl;exact rfl;exact rfl;all_goals intro hg))
   all_goals try (exfalso;omega)
   ·exact b9 rfl (by rw [if_pos hg])
   rw [if_neg hg]
   refine bh (ι:=Nat) (fun i=>⟨1,[(1,.loc 0 0),(2,.d (.int .i64 0)),(32,.d (.slice 5 (p.rules.map eb))),(33,.d (.int .i64 (p.rules.map eb).length)),(34,.d (.int .i64 i))],[(0,prgB p)]⟩)
    (fun i=>i≤p.rules.length∧cr (ruleE p.arity) p.rules=cr (ruleE p.arity) (p.rules.drop i)) (fun i=>p.rules.length - i) 0 ⟨Nat.zero_le _,rfl⟩ (ap id ⟨rfl,rfl,rfl,rfl,rfl,trivial⟩ ⟨rfl,trivial⟩ rfl rfl rfl rfl rfl rfl) ?_
   rintro i ⟨g1,g2⟩
   by_cases hi:i < p.rules.length
   ·rw [firstL_step hi] at g2
    have w6:=rule_fn p p.rules[i]
    generalize ruleE p.arity p.rules[i]=le at w6 g2
    repeat' (first|refine z0 ?_|apply ag|apply ae|refine z16 ?_|apply ah|apply ai|apply au|apply aj|apply aa|apply aq|apply av|apply bf|apply bn|refine z17 ?_|refine z21 ?_ (hc:=by apply w6)|refine z1 ?_|refine z3 ?_|(refine z23 ?_ ?_ <;> intro hg)|fail)
    all_goals first
     | (exfalso;omega)
     | (refine b9 rfl ?_;rw [g2,if_pos (by assumption)];done)
     | exact⟨i + 1,⟨by omega,by rw [g2,if_neg (by assumption)]⟩,ap id ⟨rfl,rfl,rfl,rfl,rfl,trivial⟩ ⟨rfl,trivial⟩ rfl rfl rfl rfl rfl rfl,by show p.rules.length - (i + 1) < p.rules.length - i;omega⟩
   ·rw [firstL_end (by omega)] at g2
    repeat' (first|refine z0 ?_|apply ag|apply ae|refine z16 ?_|apply ah|apply ai|apply au|apply aj|apply aa|apply aq|refine z17 ?_|refine z1 ?_|refine z3 ?_|(refine z23 ?_ ?_ <;> intro hg)|fail)
    all_goals first
     | (exfalso;omega)
     | exact b9 rfl g2.symm
def dw (s:ByteArray):Bool:=isTok 1 s && !wordB s
abbrev litB (l:Ltl):HB:=.blk 68 [.d (.int .i64 l.kind),.d (.int .i64 l.op),.d (.int .i64 l.pred),.d (.slice 2 (l.terms.map br))]
end Go.Proofs.YtapciiffpnociadGreat
namespace Go.Proofs.YtapciiffpnociadGreat
open Go Go.RowKit
section
variable {Γ : Ctx} {l : List Oper} {κ : Nat}
structure GoO (l:List Oper) (listed:Array Bool) (rem:List (Nat × Oper)):Prop where
 size:listed.size=l.length
 closed:∀ j o,l[j]? = some o→listed.getD j false=true→∀ e∈o.after,Region.binds .any e=true→listed.getD e.on false=true
 left:∀ q,q∈rem↔l[q.1]? = some q.2∧listed.getD q.1 true=false
 sorted:rem.Pairwise (fun p q=>p.1≠q.1∧edgeB l p.1 q.1=false)
theorem GoO.rest {listed:Array Bool} {rem pre post:List (Nat × Oper)} {i:Nat} {o:Oper} (g:GoO l listed rem) (hr:i∈Region.ready .any l.toArray listed) (he:rem=pre++(i,o)::post) (hi:l[i]? = some o):GoO l (listed.setIfInBounds i true) (pre++post) where
 size:=by simp [g.size]
 closed j oj hj hl e he' hb:=by
  have key:∀ x,listed.getD x false=true→(listed.setIfInBounds i true).getD x false=true:=by
   intro x hx
   by_cases hix:i=x
   ·subst hix
    have:i < listed.size:=by rw [g.size];exact cz hi
    simp [this]
   ·rw [getD_set_ne false hix];exact hx
  by_cases hij:i=j
  ·subst hij
   obtain⟨_,o',ho',hall⟩:=mem_ready.1 hr
   have ho2:l[i]? = some o':=by simpa using ho'
   rw [hj] at ho2
   cases ho2
   exact key _ (hall e he' hb)
  ·rw [getD_set_ne false hij] at hl
   exact key _ (g.closed j oj hj hl e he' hb)
 left q:=by
  have hs:=g.sorted
  rw [he] at hs
  have hne:∀ q∈pre++post,q.1≠i:=by
   intro q hq hqi
   rw [List.pairwise_append] at hs
   obtain⟨_,h2,h3⟩:=hs
   rcases List.mem_append.1 hq with h|h
   ·exact (h3 q h (i,o) (List.mem_cons_self ..)).1 hqi
   ·exact ((List.pairwise_cons.1 h2).1 q h).1 hqi.symm
  constructor
  ·intro hq
   have h1:q∈rem:=by rw [he];rcases List.mem_append.1 hq with h|h <;> simp [h]
   obtain⟨a,b⟩:=(g.left q).1 h1
   exact⟨a,by rw [getD_set_ne true (Ne.symm (hne q hq))];exact b⟩
  ·rintro⟨a,b⟩
   have hqi:i≠q.1:=by
    intro h
    have:i < listed.size:=by rw [g.size];exact cz hi
    rw [← h] at b
    simp [this] at b
   rw [getD_set_ne true hqi] at b
   have h1:=(g.left q).2 ⟨a,b⟩
   rw [he] at h1
   simp only [List.mem_append,List.mem_cons] at h1 ⊢
   rcases h1 with h|h|h
   ·exact .inl h
   ·exact absurd (by rw [h]) hqi
   ·exact .inr h
 sorted:=by
  have hs:=g.sorted
  rw [he] at hs
  exact hs.sublist (List.Sublist.append (List.Sublist.refl _) (List.sublist_cons_self _ _))
end
abbrev RE:=List (Option Int)
def vOf (e:RE) (t:Trm):Option Int:=if t.var < 0 then some t.n else e.getD t.var.toNat none
def vA (a:List Int) (t:Trm):Int:=if t.var < 0 then t.n else a.getD t.var.toNat 0
def c9 (e:RE):List Bool:=e.map Option.isSome
def cv (e:RE):List Int:=e.map fun x=>x.getD 0
def extE (e:RE) (a:List Int):Prop:=a.length=e.length∧∀ (v:Nat) (x:Int),e[v]? = some (some x)→a[v]? = some x
def dg:RE→List Trm→List Int→Option RE
 | e,t::ts,n::ns=>match vOf e t with
  | some x=>if x=n then dg e ts ns else none
  | none=>dg (e.set t.var.toNat (some n)) ts ns
 | e,_,_=>some e
theorem em (e:RE):(c9 e).length=e.length:=List.length_map _
theorem outE_len (e:RE):(cv e).length=e.length:=List.length_map _
theorem isT_hasE (e:RE) (t:Trm):isT (c9 e) t=(vOf e t).isSome:=by
 unfold isT vOf c9
 by_cases h:t.var < 0
 ·simp [h]
 ·simp only [h,decide_false,Bool.false_or,if_false,List.getD,List.getElem?_map]
  cases e[t.var.toNat]? <;> rfl
theorem vOf_out {e:RE} {t:Trm} {x:Int} (h:vOf e t=some x):vA (cv e) t=x:=by
 unfold vOf at h
 unfold vA cv
 by_cases hv:t.var < 0
 ·simp [hv] at h ⊢;exact h
 ·simp only [hv,if_false,List.getD,List.getElem?_map] at h ⊢
  cases he:e[t.var.toNat]? with
  | none=>rw [he] at h;simp at h
  | some y=>rw [he] at h;simp at h;subst h;rfl
theorem vOf_ext {e:RE} {a:List Int} {t:Trm} {x:Int} (h:extE e a) (hx:vOf e t=some x):vA a t=x:=by
 unfold vOf at hx
 unfold vA
 by_cases hv:t.var < 0
 ·simp [hv] at hx ⊢;exact hx
 ·simp only [hv,if_false,List.getD] at hx ⊢
  cases he:e[t.var.toNat]? with
  | none=>rw [he] at hx;simp at hx
  | some y =>
   rw [he] at hx
   simp at hx
   subst hx
   rw [h.2 _ _ he];rfl
theorem vA_same {e:RE} {a:List Int} {t:Trm} (h:extE e a) (hx:(vOf e t).isSome=true):vA a t=vA (cv e) t:=by
 obtain⟨x,hx⟩:=Option.isSome_iff_exists.1 hx
 rw [vOf_ext h hx,vOf_out hx]
theorem set_ext' {e:RE} {a:List Int} {t:Trm} {n:Int} (ho:okT e.length t) (hn:vOf e t=none):extE (e.set t.var.toNat (some n)) a↔extE e a∧vA a t=n:=by
 unfold vOf at hn
 unfold okT at ho
 have hv:¬ t.var < 0:=fun h=>by simp [h] at hn
 simp only [hv,if_false,List.getD] at hn
 have hlt:t.var.toNat < e.length:=by omega
 have he:e[t.var.toNat]? = some none:=by
  rw [List.getElem?_eq_getElem hlt] at hn ⊢
  simpa using hn
 unfold extE vA
 rw [List.length_set]
 simp only [hv,if_false]
 constructor
 ·rintro⟨h1,h2⟩
  have h3:=h2 t.var.toNat n (by rw [List.getElem?_set_self hlt])
  refine⟨⟨h1,fun v x hx=>?_⟩,by rw [List.getD,h3];rfl⟩
  by_cases hq:t.var.toNat=v
  ·subst hq;rw [he] at hx;cases hx
  ·exact h2 v x (by rw [List.getElem?_set_ne hq];exact hx)
 ·rintro⟨⟨h1,h2⟩,h3⟩
  refine⟨h1,fun v x hx=>?_⟩
  by_cases hq:t.var.toNat=v
  ·subst hq
   rw [List.getElem?_set_self hlt] at hx
   simp at hx
   subst hx
   rw [List.getD,List.getElem?_eq_getElem (by omega)] at h3
   rw [List.getElem?_eq_getElem (by omega)]
   simpa using h3
  ·exact h2 v x (by rw [List.getElem?_set_ne hq] at hx;exact hx)
theorem set_has {e:RE} {t:Trm} {n:Int} (hn:vOf e t=none):c9 (e.set t.var.toNat (some n))=setT (c9 e) t:=by
 have hv:¬ t.var < 0:=fun h=>by unfold vOf at hn;simp [h] at hn
 unfold c9 setT
 rw [if_neg hv,List.map_set];rfl
theorem matchE_some:∀ {ts:List Trm} {ns:List Int} {e e':RE},ts.length=ns.length→(∀ t∈ts,okT e.length t)→dg e ts ns=some e' →
  e'.length=e.length∧(∀ a,extE e' a↔extE e a∧ts.map (vA a)=ns)∧c9 e' = ts.foldl setT (c9 e)
 | [],[],e,e',_,_,h=>by
  simp only [dg,Option.some.injEq] at h
  subst h
  exact⟨rfl,fun a=>by simp,rfl⟩
 | t::ts,n::ns,e,e',hl,ho,h=>by
  have hl':ts.length=ns.length:=by simpa using hl
  rw [dg] at h
  cases hv:vOf e t with
  | some x =>
   rw [hv] at h
   simp only at h
   split at h
   ·rename_i hx
    subst hx
    obtain⟨h1,h2,h3⟩:=matchE_some hl' (fun y hy=>ho y (List.mem_cons_of_mem _ hy)) h
    refine⟨h1,fun a=>?_,?_⟩
    ·rw [h2,List.map_cons,List.cons.injEq]
     exact⟨fun⟨g1,g2⟩=>⟨g1,vOf_ext g1 hv,g2⟩,fun⟨g1,_,g2⟩=>⟨g1,g2⟩⟩
    ·rw [h3,List.foldl_cons,setT_same (by rw [isT_hasE,hv];rfl)]
   ·cases h
  | none =>
   rw [hv] at h
   simp only at h
   obtain⟨h1,h2,h3⟩:=matchE_some hl' (fun y hy=>by rw [List.length_set];exact ho y (List.mem_cons_of_mem _ hy)) h
   refine⟨by rw [h1,List.length_set],fun a=>?_,?_⟩
   ·rw [h2,set_ext' (ho t (List.mem_cons_self ..)) hv,List.map_cons,List.cons.injEq,and_assoc]
   ·rw [h3,List.foldl_cons,set_has hv]
 | [],_::_,_,_,hl,_,_=>by simp at hl
 | _::_,[],_,_,hl,_,_=>by simp at hl
theorem matchE_none:∀ {ts:List Trm} {ns:List Int} {e:RE},ts.length=ns.length→(∀ t∈ts,okT e.length t)→dg e ts ns=none→∀ a,extE e a→ts.map (vA a)≠ns
 | [],[],e,_,_,h,_,_=>by simp [dg] at h
 | t::ts,n::ns,e,hl,ho,h,a,ha=>by
  have hl':ts.length=ns.length:=by simpa using hl
  rw [dg] at h
  intro hm
  rw [List.map_cons,List.cons.injEq] at hm
  cases hv:vOf e t with
  | some x =>
   rw [hv] at h
   simp only at h
   split at h
   ·exact matchE_none hl' (fun y hy=>ho y (List.mem_cons_of_mem _ hy)) h a ha hm.2
   ·rename_i hx
    exact hx ((vOf_ext ha hv).symm.trans hm.1)
  | none =>
   rw [hv] at h
   simp only at h
   exact matchE_none hl' (fun y hy=>by rw [List.length_set];exact ho y (List.mem_cons_of_mem _ hy)) h a ((set_ext' (ho t (List.mem_cons_self ..)) hv).2 ⟨ha,hm.1⟩) hm.2
 | [],_::_,_,hl,_,_,_,_=>by simp at hl
 | _::_,[],_,hl,_,_,_,_=>by simp at hl
def testE (op a b:Int):Bool:=if op=1 then decide (a < b) else if op=2 then decide (a≤b) else if op=3 then decide (a=b) else decide (a≠b)
def calcE (op a b:Int):Int:=if op=5 then a + b else if op=6 then a - b else a * b
def calcL (l:Ltl) (a:List Int):Int:=calcE l.op ((l.terms.map (vA a)).getD 0 0) ((l.terms.map (vA a)).getD 1 0)
def holdE (S:List Fct) (l:Ltl) (a:List Int):Bool :=
 if l.kind=1 then hasF S ⟨l.pred,l.terms.map (vA a)⟩
 else if l.kind=2 then !hasF S ⟨l.pred,l.terms.map (vA a)⟩
 else if l.kind=3 then testE l.op ((l.terms.map (vA a)).getD 0 0) ((l.terms.map (vA a)).getD 1 0)
 else numB (calcL l a) && decide (calcL l a=(l.terms.map (vA a)).getD 2 0)
theorem map_same {e:RE} {a:List Int} (h:extE e a) {ts:List Trm} (hr:∀ t∈ts,(vOf e t).isSome=true):ts.map (vA a)=ts.map (vA (cv e)) :=
 List.map_congr_left fun t ht=>vA_same h (hr t ht)
theorem holdE_same {S:List Fct} {l:Ltl} {e:RE} {a:List Int} (h:extE e a) (hr:∀ t∈l.terms,(vOf e t).isSome=true):holdE S l a=holdE S l (cv e):=by
 unfold holdE calcL
 rw [map_same h hr]
structure okL (S:List Fct) (v:Nat) (l:Ltl):Prop where
 kind:1≤l.kind∧l.kind≤4
 terms:∀ t∈l.terms,okT v t
 test2:l.kind=3→l.terms.length=2
 calc3:l.kind=4→l.terms.length=3
 facts:l.kind=1→∀ x∈S,x.pred=l.pred→x.args.length=l.terms.length
def closedB (body:List Ltl) (bs:List Bool):Prop:=∀ l∈body,cw bs l=true→∀ t∈dz l,isT bs t=true
def Bd (body:List Ltl) (bs:List Bool):Prop:=∀ cs,leB bs cs→closedB body cs→∀ v,v < cs.length→cs.getD v false=true
theorem full_out {e:RE} (h:∀ v,v < (c9 e).length→(c9 e).getD v false=true) (a:List Int):extE e a↔a=cv e:=by
 rw [em] at h
 have he:∀ v,v < e.length→∃ x,e[v]? = some (some x):=fun v hv=>by
  have:=h v hv
  unfold c9 at this
  rw [List.getD,List.getElem?_map,List.getElem?_eq_getElem hv] at this
  simp at this
  obtain⟨x,hx⟩:=Option.isSome_iff_exists.1 this
  exact⟨x,by rw [List.getElem?_eq_getElem hv,hx]⟩
 constructor
 ·rintro⟨h1,h2⟩
  refine List.ext_getElem? fun v=>?_
  by_cases hv:v < e.length
  ·obtain⟨x,hx⟩:=he v hv
   rw [h2 v x hx]
   unfold cv
   rw [List.getElem?_map,hx];rfl
  ·rw [List.getElem?_eq_none (by omega),List.getElem?_eq_none (by rw [outE_len];omega)]
 ·rintro rfl
  refine⟨outE_len e,fun v x hx=>?_⟩
  unfold cv
  rw [List.getElem?_map,hx];rfl
theorem full_some {e:RE} (h:∀ v,v < (c9 e).length→(c9 e).getD v false=true) {t:Trm} (ho:okT e.length t):(vOf e t).isSome=true:=by
 rw [← isT_hasE]
 unfold isT
 unfold okT at ho
 by_cases hv:t.var < 0
 ·rw [decide_eq_true hv];rfl
 ·rw [h _ (by rw [em];omega),Bool.or_true]
theorem numB_iff {n:Int}:numB n=true↔-1000000≤n∧n≤1000000:=by unfold numB inR;simp
attribute [local irreducible] DW DS DL DQ Ev FnOk FnP ej cd DT
def needT (l:Ltl):List Trm:=if l.kind=4 then l.terms.take 2 else l.terms
def rdyL (e:RE) (l:Ltl):Bool:=(needT l).all fun t=>(vOf e t).isSome
def ek (e:RE) (left:List Ltl):Nat:=if left.findIdx (rdyL e) < left.length then left.findIdx (rdyL e) else left.findIdx fun l=>decide (l.kind=1)
def litW (S:List Fct) (go:RE→List (List Int)) (l:Ltl) (e:RE):List (List Int) :=
 if l.kind=1 then S.flatMap fun x=>if x.pred=l.pred then (match dg e l.terms x.args with|some e'=>go e'|none=>[]) else []
 else if l.kind=4 then (if numB (calcL l (cv e)) then (match dg e (l.terms.drop 2) [calcL l (cv e)] with|some e'=>go e'|none=>[]) else [])
 else if holdE S l (cv e) then go e else []
def findE (S:List Fct):Nat→List Ltl→RE→List (List Int)
 | _,[],e=>[cv e]
 | 0,_::_,_=>[]
 | k + 1,l0::ls,e=>match (l0::ls)[ek e (l0::ls)]? with
  | none=>[]
  | some l=>litW S (findE S k ((l0::ls).eraseIdx (ek e (l0::ls)))) l e
theorem mem_erase {α:Type} {l:List α} {i:Nat} (h:i < l.length) (x:α):x∈l↔x=l[i]∨x∈l.eraseIdx i:=by
 rw [List.mem_eraseIdx_iff_getElem]
 constructor
 ·intro hx
  obtain⟨j,hj,rfl⟩:=List.mem_iff_getElem.1 hx
  by_cases hq:j=i
  ·subst hq;exact .inl rfl
  ·exact .inr ⟨j,hj,hq,rfl⟩
 ·rintro (rfl|⟨j,hj,_,rfl⟩)
  ·exact List.getElem_mem h
  ·exact List.getElem_mem hj
theorem next_lt {S:List Fct} {e:RE} {left:List Ltl} (h0:left≠[]) (hok:∀ l∈left,okL S e.length l) (hB:Bd left (c9 e)):ek e left < left.length:=by
 unfold ek
 split
 ·assumption
 ·rename_i h1
  refine List.findIdx_lt_length_of_exists ?_
  apply Classical.byContradiction
  intro h2
  have h1':∀ l∈left,rdyL e l=false:=by
   intro l hl
   cases h:rdyL e l with
   | false=>rfl
   | true=>exact absurd (List.findIdx_lt_length_of_exists ⟨l,hl,h⟩) h1
  have hcl:closedB left (c9 e):=by
   intro l hl hf
   exfalso
   unfold cw at hf
   rw [Bool.or_eq_true,Bool.and_eq_true] at hf
   rcases hf with hf|⟨hf,hg⟩
   ·exact h2 ⟨l,hl,hf⟩
   ·have:=h1' l hl
    unfold rdyL needT at this
    rw [if_pos (of_decide_eq_true hf)] at this
    have hg':(l.terms.take 2).all (fun t=>(vOf e t).isSome)=true:=by
     rw [List.all_eq_true] at hg ⊢
     intro t ht
     rw [← isT_hasE];exact hg t ht
    rw [hg'] at this;cases this
  have hfull:=hB _ (leB.refl _) hcl
  obtain⟨l,hl⟩:=List.exists_mem_of_ne_nil left h0
  have:=h1' l hl
  unfold rdyL at this
  have hall:(needT l).all (fun t=>(vOf e t).isSome)=true:=by
   rw [List.all_eq_true]
   intro t ht
   refine full_some hfull ((hok l hl).terms t ?_)
   unfold needT at ht
   split at ht
   ·exact List.mem_of_mem_take ht
   ·exact ht
  rw [hall] at this;cases this
theorem next_is {e:RE} {left:List Ltl} (h:ek e left < left.length):rdyL e (left[ek e left])=true∨(left[ek e left]).kind=1:=by
 unfold ek at h ⊢
 split
 ·left;exact List.findIdx_getElem
 ·rename_i h1
  rw [if_neg h1] at h
  right
  have:=List.findIdx_getElem (xs:=left) (p:=fun l=>decide (l.kind=1)) (w:=h)
  exact of_decide_eq_true this
theorem Bd_rest {left:List Ltl} {i:Nat} (hi:i < left.length) {bs cs:List Bool} (hB:Bd left bs) (hle:leB bs cs) (hd:(∀ t∈dz left[i],isT cs t=true)∨∀ ds,cw ds left[i]=false):Bd (left.eraseIdx i) cs:=by
 intro ds h1 h2
 refine hB ds (hle.trans h1) fun l hl hf t ht=>?_
 rcases (mem_erase hi l).1 hl with rfl|hl
 ·rcases hd with hd|hd
  ·exact isT_mono h1 (hd t ht)
  ·rw [hd ds] at hf;cases hf
 ·exact h2 l hl hf t ht
theorem holdE_calc {S:List Fct} {l:Ltl} {a:List Int} (h4:l.kind=4) (h3:l.terms.length=3):holdE S l a=true↔numB (calcL l a)=true∧(l.terms.drop 2).map (vA a)=[calcL l a]:=by
 unfold holdE
 rw [if_neg (by omega),if_neg (by omega),if_neg (by omega),Bool.and_eq_true,decide_eq_true_eq]
 match hl:l.terms,h3 with
 | [t1,t2,t3],_ =>
  simp only [List.map_cons,List.map_nil,List.drop_succ_cons,List.drop_zero,List.getD_cons_succ,List.getD_cons_zero,List.cons.injEq,and_true]
  exact and_congr Iff.rfl eq_comm
theorem calcL_same {l:Ltl} {e:RE} {a:List Int} (h:extE e a) (h3:l.terms.length=3) (hr:∀ t∈l.terms.take 2,(vOf e t).isSome=true):calcL l a=calcL l (cv e):=by
 unfold calcL
 match hl:l.terms,h3 with
 | [t1,t2,t3],_ =>
  rw [hl] at hr
  simp only [List.map_cons,List.getD_cons_zero,List.getD_cons_succ]
  rw [vA_same h (hr t1 (by simp)),vA_same h (hr t2 (by simp))]
theorem litW_mem {S:List Fct} {go:RE→List (List Int)} {l:Ltl} {e:RE} (hok:okL S e.length l) (hr:rdyL e l=true∨l.kind=1) (a:List Int) {P:List Int→Prop}
  (hgo:∀ e',e'.length=e.length→leB (c9 e) (c9 e')→((∀ t∈dz l,isT (c9 e') t=true)∨∀ ds,cw ds l=false)→(a∈go e'↔extE e' a∧P a)) :
  a∈litW S go l e↔(extE e a∧holdE S l a=true)∧P a:=by
 unfold litW
 by_cases h1:l.kind=1
 ·rw [if_pos h1,List.mem_flatMap]
  have hlit:dz l=l.terms:=by unfold dz;rw [if_pos h1]
  have hho:holdE S l a=true↔(⟨l.pred,l.terms.map (vA a)⟩:Fct)∈S:=by unfold holdE;rw [if_pos h1,hasF_iff]
  constructor
  ·rintro⟨x,hx,ha⟩
   split at ha
   ·rename_i hp
    have hlen:=(hok.facts h1 x hx hp).symm
    split at ha
    ·rename_i e' he'
     obtain⟨g1,g2,g3⟩:=matchE_some hlen hok.terms he'
     have g4:=(hgo e' g1 (by rw [g3];exact setTs_le _ _) (.inl (by rw [hlit,g3];exact setTs_is (by rw [em];exact hok.terms)))).1 ha
     obtain⟨g5,g6⟩:=(g2 a).1 g4.1
     refine⟨⟨g5,hho.2 ?_⟩,g4.2⟩
     rw [g6,← hp];exact hx
    ·simp at ha
   ·simp at ha
  ·rintro⟨⟨ha,hh⟩,hP⟩
   refine⟨_,hho.1 hh,?_⟩
   rw [if_pos rfl]
   have hlen:l.terms.length=(l.terms.map (vA a)).length:=(List.length_map _).symm
   cases he':dg e l.terms (l.terms.map (vA a)) with
   | none=>exact absurd rfl (matchE_none hlen hok.terms he' a ha)
   | some e' =>
    obtain⟨g1,g2,g3⟩:=matchE_some hlen hok.terms he'
    exact (hgo e' g1 (by rw [g3];exact setTs_le _ _) (.inl (by rw [hlit,g3];exact setTs_is (by rw [em];exact hok.terms)))).2 ⟨(g2 a).2 ⟨ha,rfl⟩,hP⟩
 ·rw [if_neg h1]
  have hr:=hr.resolve_right h1
  unfold rdyL needT at hr
  by_cases h4:l.kind=4
  ·rw [if_pos h4] at hr ⊢
   have h3:=hok.calc3 h4
   have hr':∀ t∈l.terms.take 2,(vOf e t).isSome=true:=List.all_eq_true.1 hr
   have hdl:(l.terms.drop 2).length=[calcL l (cv e)].length:=by rw [List.length_drop,h3];rfl
   have hdo:∀ t∈l.terms.drop 2,okT e.length t:=fun t ht=>hok.terms t (List.mem_of_mem_drop ht)
   have hlit:dz l=l.terms.drop 2:=by unfold dz;rw [if_neg h1]
   rw [holdE_calc h4 h3]
   constructor
   ·intro ha
    split at ha
    ·rename_i hn
     split at ha
     ·rename_i e' he'
      obtain⟨g1,g2,g3⟩:=matchE_some hdl hdo he'
      have g4:=(hgo e' g1 (by rw [g3];exact setTs_le _ _) (.inl (by rw [hlit,g3];exact setTs_is (by rw [em];exact hdo)))).1 ha
      obtain⟨g5,g6⟩:=(g2 a).1 g4.1
      rw [calcL_same g5 h3 hr']
      exact⟨⟨g5,hn,g6⟩,g4.2⟩
     ·simp at ha
    ·simp at ha
   ·rintro⟨⟨ha,hn,hm⟩,hP⟩
    rw [calcL_same ha h3 hr'] at hn hm
    rw [if_pos hn]
    cases he':dg e (l.terms.drop 2) [calcL l (cv e)] with
    | none=>exact absurd hm (matchE_none hdl hdo he' a ha)
    | some e' =>
     obtain⟨g1,g2,g3⟩:=matchE_some hdl hdo he'
     exact (hgo e' g1 (by rw [g3];exact setTs_le _ _) (.inl (by rw [hlit,g3];exact setTs_is (by rw [em];exact hdo)))).2 ⟨(g2 a).2 ⟨ha,hm⟩,hP⟩
  ·rw [if_neg h4] at hr ⊢
   have hr':∀ t∈l.terms,(vOf e t).isSome=true:=List.all_eq_true.1 hr
   have hnf:∀ ds,cw ds l=false:=fun ds=>by unfold cw;rw [decide_eq_false h1,decide_eq_false h4];rfl
   have hg:=hgo e rfl (leB.refl _) (.inr hnf)
   constructor
   ·intro ha
    split at ha
    ·rename_i hh
     obtain⟨g1,g2⟩:=hg.1 ha
     exact⟨⟨g1,by rw [holdE_same g1 hr'];exact hh⟩,g2⟩
    ·simp at ha
   ·rintro⟨⟨ha,hh⟩,hP⟩
    rw [if_pos (by rw [← holdE_same ha hr'];exact hh)]
    exact hg.2 ⟨ha,hP⟩
theorem findE_mem (S:List Fct):∀ (k:Nat) (left:List Ltl) (e:RE),left.length≤k→(∀ l∈left,okL S e.length l)→Bd left (c9 e)→∀ a,a∈findE S k left e↔extE e a∧∀ l∈left,holdE S l a=true
 | k,[],e,_,_,hB,a=>by
  have h:findE S k [] e=[cv e]:=by cases k <;> rfl
  rw [h,List.mem_singleton,full_out (hB _ (leB.refl _) (by intro l hl;simp at hl))]
  simp
 | 0,_::_,_,hk,_,_,_=>by simp at hk
 | k + 1,l0::ls,e,hk,hok,hB,a=>by
  have hlt:=next_lt (by simp) hok hB
  have hnx:=next_is hlt
  rw [findE]
  generalize hi:ek e (l0::ls)=i at hlt hnx
  rw [List.getElem?_eq_getElem hlt]
  generalize hL:l0::ls=left at *
  have hlen:(left.eraseIdx i).length≤k:=by rw [List.length_eraseIdx,if_pos hlt];omega
  have hsub:∀ l∈left.eraseIdx i,l∈left:=fun l hl=>(mem_erase hlt l).2 (.inr hl)
  simp only
  rw [litW_mem (P:=fun a=>∀ l∈left.eraseIdx i,holdE S l a=true) (hok _ (List.getElem_mem hlt)) hnx a fun e' g1 g2 g3=>findE_mem S k (left.eraseIdx i) e' hlen (fun l hl=>by rw [g1];exact hok l (hsub l hl)) (Bd_rest hlt hB g2 g3) a]
  constructor
  ·rintro⟨⟨g1,g2⟩,g3⟩
   exact⟨g1,fun l hl=>((mem_erase hlt l).1 hl).elim (fun h=>h▸g2) (g3 l)⟩
  ·rintro⟨g1,g2⟩
   exact⟨⟨g1,g2 _ (List.getElem_mem hlt)⟩,fun l hl=>g2 l (hsub l hl)⟩
theorem litW_nodup {S:List Fct} {go:RE→List (List Int)} {l:Ltl} {e:RE} (hS:S.Nodup) (hok:okL S e.length l) (hgo:∀ e',e'.length=e.length→leB (c9 e) (c9 e')→((∀ t∈dz l,isT (c9 e') t=true)∨∀ ds,cw ds l=false)→(go e').Nodup∧∀ a∈go e',extE e' a):(litW S go l e).Nodup:=by
 unfold litW
 by_cases h1:l.kind=1
 ·rw [if_pos h1]
  have hlit:dz l=l.terms:=by unfold dz;rw [if_pos h1]
  have key:∀ x∈S,x.pred=l.pred→∀ e',dg e l.terms x.args=some e'→(go e').Nodup∧∀ a∈go e',l.terms.map (vA a)=x.args:=by
   intro x hx hp e' he'
   obtain⟨g1,g2,g3⟩:=matchE_some (hok.facts h1 x hx hp).symm hok.terms he'
   obtain⟨g4,g5⟩:=hgo e' g1 (by rw [g3];exact setTs_le _ _) (.inl (by rw [hlit,g3];exact setTs_is (by rw [em];exact hok.terms)))
   exact⟨g4,fun a ha=>((g2 a).1 (g5 a ha)).2⟩
  refine List.pairwise_flatMap.2 ⟨fun x hx=>?_,hS.imp_of_mem fun {x y} hx hy hne u hu v hv=>?_⟩
  ·split
   ·rename_i hp
    split
    ·rename_i e' he';exact (key x hx hp e' he').1
    ·exact .nil
   ·exact .nil
  ·rintro rfl
   split at hu
   ·rename_i hp
    split at hu
    ·rename_i e' he'
     split at hv
     ·rename_i hq
      split at hv
      ·rename_i f' hf'
       have g1:=(key x hx hp e' he').2 u hu
       have g2:=(key y hy hq f' hf').2 u hv
       apply hne
       obtain⟨xp,xa⟩:=x
       obtain⟨yp,ya⟩:=y
       simp only at hp hq g1 g2
       rw [hp,hq,← g1,← g2]
      ·simp at hv
     ·simp at hv
    ·simp at hu
   ·simp at hu
 ·rw [if_neg h1]
  by_cases h4:l.kind=4
  ·rw [if_pos h4]
   have h3:=hok.calc3 h4
   have hdl:(l.terms.drop 2).length=[calcL l (cv e)].length:=by rw [List.length_drop,h3];rfl
   have hdo:∀ t∈l.terms.drop 2,okT e.length t:=fun t ht=>hok.terms t (List.mem_of_mem_drop ht)
   have hlit:dz l=l.terms.drop 2:=by unfold dz;rw [if_neg h1]
   split
   ·split
    ·rename_i e' he'
     obtain⟨g1,g2,g3⟩:=matchE_some hdl hdo he'
     exact (hgo e' g1 (by rw [g3];exact setTs_le _ _) (.inl (by rw [hlit,g3];exact setTs_is (by rw [em];exact hdo)))).1
    ·exact .nil
   ·exact .nil
  ·rw [if_neg h4]
   have hnf:∀ ds,cw ds l=false:=fun ds=>by unfold cw;rw [decide_eq_false h1,decide_eq_false h4];rfl
   split
   ·exact (hgo e rfl (leB.refl _) (.inr hnf)).1
   ·exact .nil
theorem findE_nodup (S:List Fct) (hS:S.Nodup):∀ (k:Nat) (left:List Ltl) (e:RE),left.length≤k→(∀ l∈left,okL S e.length l)→Bd left (c9 e)→(findE S k left e).Nodup
 | k,[],e,_,_,_=>by
  have h:findE S k [] e=[cv e]:=by cases k <;> rfl
  rw [h];exact List.nodup_cons.2 ⟨by simp,.nil⟩
 | 0,_::_,_,hk,_,_=>by simp at hk
 | k + 1,l0::ls,e,hk,hok,hB=>by
  have hlt:=next_lt (by simp) hok hB
  rw [findE]
  generalize hi:ek e (l0::ls)=i at hlt
  rw [List.getElem?_eq_getElem hlt]
  generalize hL:l0::ls=left at *
  have hlen:(left.eraseIdx i).length≤k:=by rw [List.length_eraseIdx,if_pos hlt];omega
  have hsub:∀ l∈left.eraseIdx i,l∈left:=fun l hl=>(mem_erase hlt l).2 (.inr hl)
  exact litW_nodup hS (hok _ (List.getElem_mem hlt)) fun e' g1 g2 g3=>⟨findE_nodup S hS k _ e' hlen (fun l hl=>by rw [g1];exact hok l (hsub l hl)) (Bd_rest hlt hB g2 g3),
   fun a ha=>((findE_mem S k _ e' hlen (fun l hl=>by rw [g1];exact hok l (hsub l hl)) (Bd_rest hlt hB g2 g3) a).1 ha).1⟩

def recL (e:RE) (l:Ltl):Option RE :=
 if l.kind=4∧(l.terms.take 2).all (fun t=>(vOf e t).isSome)=true∧(l.terms.drop 2).all (fun t=>(vOf e t).isSome)=false then
  (if numB (calcL l (cv e)) then some ((l.terms.drop 2).foldl (fun e t=>e.set t.var.toNat (some (calcL l (cv e)))) e) else none)
 else some e
def recP (body:List Ltl) (e:RE):Option RE:=body.foldlM recL e
def recN (body:List Ltl):Nat→RE→Option RE
 | 0,e=>some e
 | n + 1,e=>(recP body e).bind (recN body n)
def wrongE (S:List Fct) (body:List Ltl) (e:RE):Bool:=body.any fun l=>l.terms.all (fun t=>(vOf e t).isSome) && !holdE S l (cv e)
def fromE (S:List Fct) (body:List Ltl):List Ltl→RE→List (List Int)
 | [],e=>match recN body (body.length + 1) e with
  | none=>[]
  | some e'=>if wrongE S body e' then [] else [cv e']
 | l::ys,e=>match recN body (body.length + 1) e with
  | none=>[]
  | some e'=>if wrongE S body e' then [] else litW S (fromE S body ys) l e'
theorem drop2 {l:Ltl} (h3:l.terms.length=3):∃ t1 t2 t3,l.terms=[t1,t2,t3]:=by
 match h:l.terms,h3 with
 | [t1,t2,t3],_=>exact⟨t1,t2,t3,rfl⟩
theorem recL_some {S:List Fct} {e e':RE} {l:Ltl} (hok:okL S e.length l) (h:recL e l=some e') :
  e'.length=e.length∧(∀ a,holdE S l a=true→(extE e' a↔extE e a))∧c9 e' = (if l.kind=4 then bLit (c9 e) l else c9 e)∧∀ a,extE e' a→extE e a:=by
 unfold recL at h
 by_cases h4:l.kind=4
 ·have h3:=hok.calc3 h4
  obtain⟨t1,t2,t3,hT⟩:=drop2 h3
  have o3:okT e.length t3:=hok.terms t3 (by rw [hT];simp)
  have hdr:l.terms.drop 2=[t3]:=by rw [hT];rfl
  have hlit:dz l=[t3]:=by unfold dz;rw [if_neg (by omega),hdr]
  rw [if_pos h4]
  by_cases h12:(l.terms.take 2).all (fun t=>(vOf e t).isSome)=true
  ·have hfire:cw (c9 e) l=true:=by
    unfold cw
    rw [decide_eq_true h4,Bool.true_and,Bool.or_eq_true]
    right
    rw [List.all_eq_true] at h12 ⊢
    intro t ht
    rw [isT_hasE];exact h12 t ht
   have hbl:bLit (c9 e) l=setT (c9 e) t3:=by unfold bLit;rw [if_pos hfire,hlit];rfl
   cases hv:vOf e t3 with
   | some x =>
    rw [if_neg (by rw [hdr];simp [hv])] at h
    simp only [Option.some.injEq] at h
    subst h
    exact⟨rfl,fun a _=>Iff.rfl,by rw [hbl,setT_same (by rw [isT_hasE,hv];rfl)],fun a ha=>ha⟩
   | none =>
    rw [if_pos ⟨h4,h12,by rw [hdr];simp [hv]⟩] at h
    split at h
    ·rw [hdr] at h
     simp only [List.foldl_cons,List.foldl_nil,Option.some.injEq] at h
     subst h
     have hx:=fun a=>set_ext' (a:=a) (n:=calcL l (cv e)) o3 hv
     refine⟨List.length_set ..,fun a ha=>?_,by rw [set_has hv,hbl],fun a ha=>((hx a).1 ha).1⟩
     rw [hx a]
     refine⟨fun g=>g.1,fun g=>⟨g,?_⟩⟩
     have:=((holdE_calc h4 h3).1 ha).2
     rw [hdr,calcL_same g h3 (List.all_eq_true.1 h12)] at this
     simpa using this
    ·cases h
  ·rw [if_neg (by rintro⟨_,g,_⟩;exact h12 g)] at h
   simp only [Option.some.injEq] at h
   subst h
   refine⟨rfl,fun a _=>Iff.rfl,?_,fun a ha=>ha⟩
   have hnf:¬ cw (c9 e) l=true:=by
    unfold cw
    rw [decide_eq_false (by omega),Bool.false_or,Bool.and_eq_true]
    rintro⟨_,g⟩
    apply h12
    rw [List.all_eq_true] at g ⊢
    intro t ht
    rw [← isT_hasE];exact g t ht
   unfold bLit;rw [if_neg hnf]
 ·rw [if_neg (by rintro⟨g,_⟩;exact h4 g)] at h
  simp only [Option.some.injEq] at h
  subst h
  rw [if_neg h4]
  exact⟨rfl,fun a _=>Iff.rfl,rfl,fun a ha=>ha⟩
theorem recL_none {S:List Fct} {e:RE} {l:Ltl} (hok:okL S e.length l) (h:recL e l=none) (a:List Int) (ha:extE e a):holdE S l a=false:=by
 unfold recL at h
 split at h
 ·rename_i hc
  obtain⟨h4,h12,_⟩:=hc
  split at h
  ·cases h
  ·rename_i hn
   have h3:=hok.calc3 h4
   cases hh:holdE S l a with
   | false=>rfl
   | true =>
    have:=((holdE_calc h4 h3).1 hh).1
    rw [calcL_same ha h3 (List.all_eq_true.1 h12)] at this
    exact absurd this hn
 ·cases h
def calcs (body:List Ltl):List Ltl:=body.filter fun l=>decide (l.kind=4)
theorem calcs_round (l:Ltl) (body:List Ltl) (bs:List Bool):bRound (calcs (l::body)) bs=bRound (calcs body) (if l.kind=4 then bLit bs l else bs):=by
 unfold calcs
 rw [List.filter_cons]
 by_cases h:l.kind=4
 ·simp only [h,decide_true,if_true];rfl
 ·simp only [h,decide_false,if_false];rfl
theorem recP_some {S:List Fct}:∀ {body:List Ltl} {e e':RE},(∀ l∈body,okL S e.length l)→recP body e=some e' →
  e'.length=e.length∧(∀ a,(∀ l∈body,holdE S l a=true)→(extE e' a↔extE e a))∧c9 e' = bRound (calcs body) (c9 e)∧∀ a,extE e' a→extE e a
 | [],e,e',_,h=>by
  simp only [recP,List.foldlM_nil] at h
  cases h
  exact⟨rfl,fun a _=>Iff.rfl,rfl,fun a ha=>ha⟩
 | l::body,e,e',hok,h=>by
  simp only [recP,List.foldlM_cons] at h
  cases h1:recL e l with
  | none=>rw [h1] at h;cases h
  | some e1 =>
   rw [h1] at h
   obtain⟨g1,g2,g3,g4⟩:=recL_some (hok l (List.mem_cons_self ..)) h1
   obtain⟨k1,k2,k3,k4⟩:=recP_some (body:=body) (e:=e1) (fun x hx=>by rw [g1];exact hok x (List.mem_cons_of_mem _ hx)) h
   refine⟨k1.trans g1,fun a ha=>?_,by rw [k3,g3,calcs_round],fun a ha=>g4 a (k4 a ha)⟩
   rw [k2 a fun x hx=>ha x (List.mem_cons_of_mem _ hx),g2 a (ha l (List.mem_cons_self ..))]
theorem recP_none {S:List Fct}:∀ {body:List Ltl} {e:RE},(∀ l∈body,okL S e.length l)→recP body e=none→∀ a,extE e a→¬ ∀ l∈body,holdE S l a=true
 | [],e,_,h,_,_,_=>by simp [recP] at h
 | l::body,e,hok,h,a,ha,hall=>by
  simp only [recP,List.foldlM_cons] at h
  cases h1:recL e l with
  | none =>
   have:=recL_none (hok l (List.mem_cons_self ..)) h1 a ha
   rw [hall l (List.mem_cons_self ..)] at this;cases this
  | some e1 =>
   rw [h1] at h
   obtain⟨g1,g2,_,_⟩:=recL_some (hok l (List.mem_cons_self ..)) h1
   exact recP_none (body:=body) (e:=e1) (fun x hx=>by rw [g1];exact hok x (List.mem_cons_of_mem _ hx)) h a ((g2 a (hall l (List.mem_cons_self ..))).2 ha) fun x hx=>hall x (List.mem_cons_of_mem _ hx)
theorem recN_some {S:List Fct} {body:List Ltl}:∀ {n:Nat} {e e':RE},(∀ l∈body,okL S e.length l)→recN body n e=some e' →
  e'.length=e.length∧(∀ a,(∀ l∈body,holdE S l a=true)→(extE e' a↔extE e a))∧c9 e' = bIter (calcs body) n (c9 e)∧∀ a,extE e' a→extE e a
 | 0,e,e',_,h=>by
  simp only [recN,Option.some.injEq] at h
  subst h
  exact⟨rfl,fun a _=>Iff.rfl,rfl,fun a ha=>ha⟩
 | n + 1,e,e',hok,h=>by
  rw [recN,Option.bind_eq_some_iff] at h
  obtain⟨e1,h1,h2⟩:=h
  obtain⟨g1,g2,g3,g4⟩:=recP_some hok h1
  obtain⟨k1,k2,k3,k4⟩:=recN_some (fun x hx=>by rw [g1];exact hok x hx) h2
  refine⟨k1.trans g1,fun a ha=>by rw [k2 a ha,g2 a ha],by rw [k3,g3];rfl,fun a ha=>g4 a (k4 a ha)⟩
theorem recN_none {S:List Fct} {body:List Ltl}:∀ {n:Nat} {e:RE},(∀ l∈body,okL S e.length l)→recN body n e=none→∀ a,extE e a→¬ ∀ l∈body,holdE S l a=true
 | 0,e,_,h,_,_,_=>by simp [recN] at h
 | n + 1,e,hok,h,a,ha,hall=>by
  rw [recN] at h
  cases h1:recP body e with
  | none=>exact recP_none hok h1 a ha hall
  | some e1 =>
   rw [h1] at h
   obtain⟨g1,g2,_,_⟩:=recP_some hok h1
   exact recN_none (fun x hx=>by rw [g1];exact hok x hx) h a ((g2 a hall).2 ha) hall
theorem recN_closed {S:List Fct} {body:List Ltl} {e e':RE} (hok:∀ l∈body,okL S e.length l) (h:recN body (body.length + 1) e=some e'):closedB (calcs body) (c9 e'):=by
 obtain⟨_,_,h3,_⟩:=recN_some hok h
 have hsub:∀ l∈calcs body,l∈body:=fun l hl=>(List.mem_filter.1 hl).1
 have hokT:∀ l∈calcs body,∀ t∈dz l,okT (c9 e).length t:=by
  intro l hl t ht
  rw [em]
  refine (hok l (hsub l hl)).terms t ?_
  unfold dz at ht
  split at ht
  ·exact ht
  ·exact List.mem_of_mem_drop ht
 have hle:(calcs body).length≤body.length:=List.length_filter_le _ _
 have hr:=bRound_rest hokT
 have hfix:bRound (calcs body) (c9 e')=c9 e':=by
  obtain⟨d,hd⟩:=Nat.exists_eq_add_of_le (show (calcs body).length≤body.length + 1 by omega)
  rw [h3,hd,bIter_add,bIter_fix hr,hr]
 intro l hl hf t ht
 rw [← hfix]
 exact bRound_done (fun l hl t ht=>by
  have:=hokT l hl t ht
  rw [em] at this ⊢
  rw [(recN_some hok h).1];exact this) l hl hf t ht
theorem wrong_false {S:List Fct} {body:List Ltl} {e:RE} {a:List Int} (ha:extE e a) (hall:∀ l∈body,holdE S l a=true):wrongE S body e=false:=by
 unfold wrongE
 rw [List.any_eq_false]
 intro l hl hc
 rw [Bool.and_eq_true,List.all_eq_true] at hc
 have:=holdE_same (S:=S) ha hc.1
 rw [hall l hl] at this
 rw [← this] at hc
 exact absurd hc.2 (by simp)
theorem fromE_spec (S:List Fct) (hS:S.Nodup) (body:List Ltl):∀ (ys:List Ltl) (e:RE),(∀ l∈ys,l∈body∧l.kind=1)→(∀ l∈body,okL S e.length l)→Bd body (c9 e)→(∀ l∈body,l.kind=1→l∈ys∨∀ t∈l.terms,isT (c9 e) t=true) →
  (∀ a,a∈fromE S body ys e↔extE e a∧∀ l∈body,holdE S l a=true)∧(fromE S body ys e).Nodup
 | [],e,_,hok,hB,hy=>by
  rw [fromE]
  cases hr:recN body (body.length + 1) e with
  | none=>exact⟨fun a=>⟨fun h=>by simp at h,fun⟨h1,h2⟩=>absurd h2 (recN_none hok hr a h1)⟩,.nil⟩
  | some e' =>
   simp only
   obtain⟨g1,g2,g3,g4⟩:=recN_some hok hr
   have hcl:=recN_closed hok hr
   have hle:leB (c9 e) (c9 e'):=by
    rw [g3]
    have:∀ n bs,leB bs (bIter (calcs body) n bs):=by
     intro n
     induction n with
     | zero=>intro bs;exact leB.refl _
     | succ n ih=>intro bs;exact (bRound_le _ _).trans (ih _)
    exact this _ _
   have hfull:∀ v,v < (c9 e').length→(c9 e').getD v false=true:=by
    refine hB _ hle fun l hl hf t ht=>?_
    by_cases h1:l.kind=1
    ·have hl1:dz l=l.terms:=by unfold dz;rw [if_pos h1]
     rw [hl1] at ht
     rcases hy l hl h1 with h|h
     ·simp at h
     ·exact isT_mono hle (h t ht)
    ·have h4:l.kind=4:=by
      unfold cw at hf
      rw [decide_eq_false h1,Bool.false_or,Bool.and_eq_true] at hf
      exact of_decide_eq_true hf.1
     exact hcl l (List.mem_filter.2 ⟨hl,decide_eq_true h4⟩) hf t ht
   have hsome:∀ l∈body,∀ t∈l.terms,(vOf e' t).isSome=true:=fun l hl t ht=>full_some hfull (by rw [g1];exact (hok l hl).terms t ht)
   split
   ·rename_i hw
    refine⟨fun a=>⟨fun h=>by simp at h,fun⟨h1,h2⟩=>?_⟩,.nil⟩
    rw [wrong_false ((g2 a h2).2 h1) h2] at hw;cases hw
   ·rename_i hw
    refine⟨fun a=>?_,List.nodup_cons.2 ⟨by simp,.nil⟩⟩
    rw [List.mem_singleton]
    constructor
    ·rintro rfl
     have hx:=(full_out hfull (cv e')).2 rfl
     refine⟨g4 _ hx,fun l hl=>?_⟩
     cases hh:holdE S l (cv e') with
     | true=>rfl
     | false =>
      exfalso;apply hw
      unfold wrongE
      rw [List.any_eq_true]
      exact⟨l,hl,by rw [hh,Bool.and_eq_true,List.all_eq_true];exact⟨fun t ht=>hsome l hl t ht,rfl⟩⟩
    ·rintro⟨h1,h2⟩
     exact (full_out hfull a).1 ((g2 a h2).2 h1)
 | l::ys,e,hys,hok,hB,hy=>by
  rw [fromE]
  cases hr:recN body (body.length + 1) e with
  | none=>exact⟨fun a=>⟨fun h=>by simp at h,fun⟨h1,h2⟩=>absurd h2 (recN_none hok hr a h1)⟩,.nil⟩
  | some e' =>
   simp only
   obtain⟨g1,g2,g3,g4⟩:=recN_some hok hr
   have hle:leB (c9 e) (c9 e'):=by
    rw [g3]
    have:∀ n bs,leB bs (bIter (calcs body) n bs):=by
     intro n
     induction n with
     | zero=>intro bs;exact leB.refl _
     | succ n ih=>intro bs;exact (bRound_le _ _).trans (ih _)
    exact this _ _
   obtain⟨hl,hl1⟩:=hys l (List.mem_cons_self ..)
   have hlit:dz l=l.terms:=by unfold dz;rw [if_pos hl1]
   split
   ·rename_i hw
    refine⟨fun a=>⟨fun h=>by simp at h,fun⟨h1,h2⟩=>?_⟩,.nil⟩
    rw [wrong_false ((g2 a h2).2 h1) h2] at hw;cases hw
   ·have ih:∀ e'',e''.length=e'.length→leB (c9 e') (c9 e'')→((∀ t∈dz l,isT (c9 e'') t=true)∨∀ ds,cw ds l=false)→(∀ a,a∈fromE S body ys e''↔extE e'' a∧∀ l∈body,holdE S l a=true)∧(fromE S body ys e'').Nodup:=by
     intro e'' k1 k2 k3
     refine fromE_spec S hS body ys e'' (fun x hx=>hys x (List.mem_cons_of_mem _ hx)) (fun x hx=>by rw [k1,g1];exact hok x hx) (fun cs c1 c2=>hB cs ((hle.trans k2).trans c1) c2) fun x hx hx1=>?_
     rcases hy x hx hx1 with h|h
     ·rcases List.mem_cons.1 h with rfl|h
      ·right
       rcases k3 with k3|k3
       ·rw [hlit] at k3;exact k3
       ·have:=k3 []
        unfold cw at this
        rw [decide_eq_true hl1] at this
        simp at this
      ·exact .inl h
     ·exact .inr fun t ht=>isT_mono (hle.trans k2) (h t ht)
    have hok':okL S e'.length l:=by rw [g1];exact hok l hl
    refine⟨fun a=>?_,litW_nodup hS hok' fun e'' k1 k2 k3=>⟨(ih e'' k1 k2 k3).2,fun a ha=>(((ih e'' k1 k2 k3).1 a).1 ha).1⟩⟩
    rw [litW_mem (P:=fun a=>∀ l∈body,holdE S l a=true) hok' (.inr hl1) a fun e'' k1 k2 k3=>(ih e'' k1 k2 k3).1 a]
    constructor
    ·rintro⟨⟨h1,_⟩,h2⟩;exact⟨(g2 a h2).1 h1,h2⟩
    ·rintro⟨h1,h2⟩;exact⟨⟨(g2 a h2).2 h1,h2 l hl⟩,h2⟩
def encW (a:List Int):List D:=[.slice 1 (a.map bi)]
structure okB (S:List Fct) (v:Nat) (body:List Ltl):Prop where
 lit:∀ l∈body,okL S v l
 op:∀ l∈body,l.kind=3→1≤l.op∧l.op≤4
 nums:∀ l∈body,∀ t∈l.terms,-1000000≤t.n∧t.n≤1000000
 facts:∀ x∈S,∀ y∈x.args,-1000000≤y∧y≤1000000
 len:body.length≤4
 vle:v≤8
 tlen:∀ l∈body,l.terms.length≤3
def numE (e:RE):Prop:=∀ (v:Nat) (x:Int),e[v]? = some (some x)→-1000000≤x∧x≤1000000
theorem vA_num {e:RE} (h:numE e) {t:Trm} (ht:-1000000≤t.n∧t.n≤1000000):-1000000≤vA (cv e) t∧vA (cv e) t≤1000000:=by
 unfold vA cv
 split
 ·exact ht
 ·rw [List.getD,List.getElem?_map]
  cases hx:e[t.var.toNat]? with
  | none=>simp
  | some y =>
   cases y with
   | none=>simp
   | some z=>simpa using h _ _ hx
theorem numE_set {e:RE} (h:numE e) {v:Nat} {n:Int} (hn:numB n=true):numE (e.set v (some n)):=by
 intro u x hx
 by_cases hq:v=u
 ·subst hq
  by_cases hl:v < e.length
  ·rw [List.getElem?_set_self hl] at hx
   simp at hx;subst hx
   exact numB_iff.1 hn
  ·rw [List.getElem?_eq_none (by rw [List.length_set];omega)] at hx;cases hx
 ·rw [List.getElem?_set_ne hq] at hx
  exact h u x hx
theorem recL_num {S:List Fct} {e e':RE} {l:Ltl} (hok:okL S e.length l) (hn:numE e) (h:recL e l=some e'):numE e':=by
 unfold recL at h
 split at h
 ·rename_i hc
  split at h
  ·rename_i hb
   obtain⟨t1,t2,t3,hT⟩:=drop2 (hok.calc3 hc.1)
   rw [hT] at h
   simp only [List.drop_succ_cons,List.drop_zero,List.foldl_cons,List.foldl_nil,Option.some.injEq] at h
   subst h
   exact numE_set hn hb
  ·cases h
 ·simp only [Option.some.injEq] at h;subst h;exact hn
end Go.Proofs.YtapciiffpnociadGreat
