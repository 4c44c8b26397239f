/- Several texts in one: ScoC ScoD ScoF GxOrd RuP. Condition: none. -/
import Derived.Test.YtapciiffpnociacGreatW12
import Derived.Test.YtapciiffpnociacGreatW07
import Derived.Test.YtapciiffpnociacGreatW10
import Derived.Test.YtapciiffpnociacGreatW11
namespace Go.Proofs.YtapciiffpnociacGreat
open Go Go.RowKit
attribute [local irreducible] DW DS DL DQ Ev FnOk FnP thenD b7 DT
abbrev FnW (f:FuncId) (args:List SV) (J k:Nat) (H:Hp) (R:Nat→SV→Hp→Prop):Prop:=FnOk false Tryz.prog tab b8 f args J k H R
abbrev bsH (bs:List Bool):Hp:=[(0,.blk 50 [.row 1]),(1,.row 4 1 (bs.map cu))]
theorem isT_pos {bs:List Bool} {t:Trm} (h:t.var < 0):isT bs t=true:=by unfold isT;rw [decide_eq_true h];rfl
theorem isT_neg {bs:List Bool} {t:Trm} (h:¬ t.var < 0) (h2:t.var < (bs.length:Int)):isT bs t=bs[t.var.toNat]'(by omega):=by
 unfold isT
 rw [decide_eq_false h,Bool.false_or,List.getD,List.getElem?_eq_getElem (by omega)];rfl
set_option maxHeartbeats 8000000 in
theorem isFn (bs:List Bool) (t:Trm) (hok:okT bs.length t):FnW 186 [elTrm t,.loc 0 0] 1 2 (bsH bs) (fun k2 res H2=>k2=2∧res = .d (.bool (isT bs t))∧H2=bsH bs):=by
 refine cr _ Tryz.func186 rfl rfl (by kernel_rfl) ?_
 intro O w0 E0 β0
 have la:(bs.map cu).length=bs.length:=List.length_map _
 unfold okT at hok
 by_cases hneg:t.var < 0
 ·rw [isT_pos hneg]
  repeat' (first|refine z0 ?_|refine z12 ?_|apply ag|apply ae|refine z16 ?_|apply ak|apply aa|refine z1 ?_|((fail_if_success (apply a8;exact rfl));apply a6;exact rfl;exact rfl;exact rfl;all_goals intro hg))
  ·exact⟨.inl rfl,_,rfl,id,2,.d (.bool true),bsH bs,rfl,⟨rfl,rfl,trivial⟩,rfl,rfl,rfl,rfl,rfl,rfl,rfl,rfl,rfl⟩
  all_goals exact absurd hneg hg
 ·rw [isT_neg hneg hok]
  repeat' (first|refine z0 ?_|refine z12 ?_|apply ag|apply ae|refine z16 ?_|apply ak|apply aa|refine z1 ?_|((fail_if_success (apply a8;exact rfl));apply a6;exact rfl;exact rfl;exact rfl;all_goals intro hg))
  ·exact absurd hg hneg
  all_goals exact⟨.inl rfl,_,rfl,id,2,.d (.bool _),bsH bs,rfl,⟨rfl,rfl,trivial⟩,rfl,rfl,rfl,rfl,rfl,rfl,rfl,rfl,rfl⟩
def Fl (b0 bs:List Bool) (ch:Bool):Prop:=bs.length=b0.length∧bs.count false≤b0.count false∧(ch=false→bs=b0)∧(ch=true→bs.count false < b0.count false)
theorem Fl.refl (b0:List Bool):Fl b0 b0 false:=⟨rfl,Nat.le_refl _,fun _=>rfl,fun h=>by cases h⟩
theorem count_set:∀ {bs:List Bool} {i:Nat} (_:i < bs.length),bs[i]? = some false→(bs.set i true).count false + 1=bs.count false
 | [],_,h,_=>by simp at h
 | b::bs,0,_,hb=>by simp at hb;subst hb;simp
 | b::bs,i + 1,h,hb=>by
  have:=count_set (bs:=bs) (i:=i) (by simpa using h) (by simpa using hb)
  rw [List.set_cons_succ,List.count_cons,List.count_cons]
  omega
theorem setT_count {bs:List Bool} {t:Trm} (hok:okT bs.length t) (h:isT bs t=false):(setT bs t).count false + 1=bs.count false∧¬ t.var < 0:=by
 have hn:¬ t.var < 0:=fun hn=>by rw [isT_pos hn] at h;cases h
 unfold okT at hok
 rw [isT_neg hn hok] at h
 unfold setT
 rw [if_neg hn]
 exact⟨count_set (by omega) (by rw [List.getElem?_eq_getElem (by omega),h]),hn⟩
theorem Fl.step {b0 bs:List Bool} {ch:Bool} {t:Trm} (h:Fl b0 bs ch) (hok:okT bs.length t):Fl b0 (setT bs t) (ch || !isT bs t):=by
 obtain⟨h1,h2,h3,h4⟩:=h
 cases ht:isT bs t with
 | true=>rw [setT_same ht,Bool.not_true,Bool.or_false];exact⟨h1,h2,h3,h4⟩
 | false =>
  obtain⟨g1,_⟩:=setT_count hok ht
  rw [Bool.not_false,Bool.or_true]
  exact⟨by rw [setT_len,h1],by omega,fun h=>by (cases h),fun _=>by omega⟩
abbrev ruleB (r:Rul):HB:=.blk 36 [.d (.int .i64 r.pred),.d (.slice 2 (r.terms.map bm)),.d (.int .i64 r.fold),.d (.slice 4 (r.body.map bp)),.d (.int .i64 r.vars)]
abbrev bndH (r:Rul) (bs:List Bool):Hp:=[(0,ruleB r),(1,.row 4 1 (bs.map cu)),(2,.blk 50 [.row 1])]
abbrev bndL (ch:Bool):Sl:=[(1,.loc 0 0),(2,.nils),(3,.loc 2 0),(4,.fn 186 [.loc 2 0]),(5,.d (.bool ch))]
theorem fires4 {bs:List Bool} {l:Ltl} (k1:¬ l.kind=1) (k4:l.kind=4) (h:l.terms.length=3):cd bs l=(isT bs (l.terms[0]'(by omega)) && isT bs (l.terms[1]'(by omega))):=by
 unfold cd
 rw [decide_eq_false k1,decide_eq_true k4]
 obtain⟨kind,op,pred,terms⟩:=l
 dsimp only at h ⊢
 match terms,h with
 | [a,b,c],_=>simp
theorem litTs_sub {l:Ltl} {t:Trm} (h:t∈litTs l):t∈l.terms:=by
 unfold litTs at h
 split at h
 ·exact h
 ·exact List.mem_of_mem_drop h
theorem foldl_take {α β:Type} (f:β→α→β) (b:β) {l:List α} {i:Nat} (h:i < l.length):(l.take (i + 1)).foldl f b=f ((l.take i).foldl f b) l[i]:=by
 rw [List.take_succ_eq_append_getElem h,List.foldl_append];rfl
theorem bLits_len:∀ (l:List Ltl) (bs:List Bool),(l.foldl bLit bs).length=bs.length:=bRound_len
set_option maxHeartbeats 8000000 in
theorem bound_fn (r:Rul) (h0:0≤r.vars) (h8:r.vars≤8) (hok:∀ l∈r.body,∀ t∈l.terms,okT r.vars.toNat t) (h3:∀ l∈r.body,l.kind=4→l.terms.length=3) :
  Fn 159 [elRul r] (fun res=>res = .d (.slice 1 ((boundL r).map cu))):=by
 refine au _ Tryz.func159 rfl rfl (by kernel_rfl) ?_
 intro O w0 E0 β0
 have lb:(r.body.map bp).length=r.body.length:=List.length_map _
 refine dw_lenA 0 3 rfl rfl (fun hk=>?_)
 repeat' (first|refine z0 ?_|apply ag|apply ae|refine z16 ?_|apply aa|refine z1 ?_|fail)
 refine ds_mk ((List.replicate r.vars.toNat false).map cu) rfl rfl (Int.toNat_of_nonneg h0).symm rfl rfl rfl rfl rfl rfl (by show 1 * _≤_;omega) (by unfold maxLen;omega) (by rw [List.map_replicate];rfl) rfl rfl ?_
 repeat' (first|refine z0 ?_|apply ag|apply ae|refine z16 ?_|apply ah|apply aa|refine z1 ?_|refine z3 ?_|fail)
 refine bh (ι:=Bool × List Bool × Nat) (fun x=>⟨3,bndL x.1,bndH r x.2.1⟩)
  (fun x=>x.2.1=bIter r.body x.2.2 (List.replicate r.vars.toNat false)∧(x.1=false→bRound r.body x.2.1=x.2.1)) (fun x=>2 * x.2.1.count false + (if x.1 then 1 else 0))
  (true,List.replicate r.vars.toNat false,0) ⟨rfl,fun h=>by cases h⟩ (aj id ⟨rfl,rfl,rfl,rfl,rfl,trivial⟩ ⟨rfl,rfl,rfl,trivial⟩ rfl rfl rfl rfl rfl rfl) ?_
 rintro⟨ch,b0,m⟩ ⟨g1,g2⟩
 dsimp only at g1 g2 ⊢
 have hlen:b0.length=r.vars.toNat:=by rw [g1,bIter_len,List.length_replicate]
 cases ch with
 | false =>
  repeat' (first|refine z0 ?_|apply ag|apply ae|refine z16 ?_|apply aq|refine z19 ?_|apply aa|apply ap|refine z17 ?_|fail)
  refine bl (cg 2 rfl rfl rfl) ?_
  repeat' (apply ak)
  have hb:b0=boundL r:=by
   rw [g1]
   exact rest_is (fun l hl t ht=>hok l hl t (litTs_sub ht)) (g1▸g2 rfl)
  rw [← hb]
  exact⟨.inl rfl,_,rfl,rfl,rfl⟩
 | true =>
  repeat' (first|refine z0 ?_|apply ag|apply ae|refine z16 ?_|apply ah|apply ai|refine z18 ?_|apply aa)
  refine bh (ι:=Nat × List Bool × Bool) (fun x=>⟨3,(17,.d (.slice 4 (r.body.map bp)))::(18,.d (.int .i64 (r.body.map bp).length))::(19,.d (.int .i64 x.1))::bndL x.2.2,bndH r x.2.1⟩)
   (fun x=>x.1≤r.body.length∧x.2.1=(r.body.take x.1).foldl bLit b0∧Fl b0 x.2.1 x.2.2) (fun x=>r.body.length - x.1)
   (0,b0,false) ⟨Nat.zero_le _,rfl,Fl.refl b0⟩ (aj id ⟨rfl,rfl,rfl,rfl,rfl,rfl,rfl,rfl,trivial⟩ ⟨rfl,rfl,rfl,trivial⟩ rfl rfl rfl rfl rfl rfl) ?_
  rintro⟨i,bs,ch⟩ ⟨f1,f2,f3⟩
  dsimp only at f1 f2 f3 ⊢
  have hbl:bs.length=r.vars.toNat:=by rw [f2,bLits_len,hlen]
  by_cases hi:i < r.body.length
  ·have hlok:=hok r.body[i] (List.getElem_mem hi)
   have h3':=h3 r.body[i] (List.getElem_mem hi)
   have hf:bLit bs r.body[i]=(r.body.take (i + 1)).foldl bLit b0:=by rw [foldl_take bLit b0 hi,← f2]
   repeat' ((fail_if_success (apply dw_stop 4));(first|refine z0 ?_|apply ag|apply ae|refine z16 ?_|apply ah|apply ai|apply aq|apply aa|apply ap|apply aw|refine z17 ?_|refine z1 ?_|refine z3 ?_|(refine z23 ?_ ?_ <;> intro hg)|fail))
   ·generalize r.body[i]=l at hlok h3' hf ⊢
    refine dw_cut (ι:=List Trm) (fun ts=>⟨4,(8,.d (.slice 2 (ts.map bm)))::(17,.d (.slice 4 (r.body.map bp)))::(18,.d (.int .i64 (r.body.map bp).length))::(19,.d (.int .i64 i))::bndL ch,bndH r bs⟩) (fun ts=>ts=if cd bs l then litTs l else []) ?_ ?_
    ·have ll:(l.terms.map bm).length=l.terms.length:=List.length_map _
     by_cases k1:l.kind=1
     ·repeat' (first|refine z0 ?_|refine z12 ?_|apply ag|apply ae|refine z16 ?_|apply ah|apply ai|refine z19 ?_|apply aa|apply aw|(refine z23 ?_ ?_ <;> intro hg)|((fail_if_success (apply a8;exact rfl));apply a6;exact rfl;exact rfl;exact rfl;all_goals intro hg))
      ·exact⟨l.terms,by unfold cd litTs;simp [k1],aj id ⟨rfl,rfl,rfl,rfl,rfl,rfl,rfl,rfl,rfl,trivial⟩ ⟨rfl,rfl,rfl,trivial⟩ rfl rfl rfl rfl rfl rfl⟩
      all_goals (exfalso;omega)
     ·by_cases k4:l.kind=4
      ·have h3l:=h3' k4
       have hlok':∀ t∈l.terms,okT bs.length t:=by rw [hbl];exact hlok
       have hf4:=fires4 (bs:=bs) k1 k4 h3l
       have hl4:litTs l=l.terms.drop 2:=by unfold litTs;rw [if_neg k1]
       repeat' (first|refine z0 ?_|refine z12 ?_|apply ag|apply ae|refine z16 ?_|apply ah|apply ai|refine z19 ?_|apply aa|apply aw|(refine z23 ?_ ?_ <;> intro hg)|((fail_if_success (apply a8;exact rfl));apply a6;exact rfl;exact rfl;exact rfl;all_goals intro hg))
       all_goals try (exfalso;omega)
       refine ds_callVF (fun j=>match j with|0=>2|_=>1) (isFn bs (l.terms[0]'(by omega)) (hlok' _ (List.getElem_mem _))) rfl rfl rfl rfl rfl rfl ⟨rfl,rfl,trivial⟩ rfl rfl rfl rfl rfl rfl ?_ ?_
       ·rintro k2 res H2 ⟨rfl,rfl,rfl⟩
        exact⟨rfl,rfl⟩
       rintro k2 res H2 ⟨rfl,rfl,rfl⟩
       change DS _ _ _ _ _ _ _ _
       rw [hf4]
       generalize isT bs (l.terms[0]'(by omega))=q0
       cases q0 with
       | false =>
        repeat' (first|refine z0 ?_|refine z12 ?_|apply ag|apply ai|refine z19 ?_|apply aa|apply aw)
        all_goals exact⟨[],rfl,ent_trans (dc 8 2 rfl) (aj (fun j=>match j with|0=>0|1=>5|j=>j) ⟨rfl,rfl,rfl,rfl,rfl,rfl,rfl,rfl,rfl,trivial⟩ ⟨rfl,rfl,rfl,trivial⟩ rfl rfl rfl rfl rfl rfl)⟩
       | true =>
        repeat' refine z0 ?_
        refine ds_callVF (fun j=>match j with|0=>2|_=>5) (isFn bs (l.terms[1]'(by omega)) (hlok' _ (List.getElem_mem _))) rfl rfl rfl rfl rfl rfl ⟨rfl,rfl,trivial⟩ rfl rfl rfl rfl rfl rfl ?_ ?_
        ·rintro k2 res H2 ⟨rfl,rfl,rfl⟩
         exact⟨rfl,rfl⟩
        rintro k2 res H2 ⟨rfl,rfl,rfl⟩
        change DS _ _ _ _ _ _ _ _
        generalize isT bs (l.terms[1]'(by omega))=q1
        cases q1 with
        | false =>
         repeat' (first|refine z0 ?_|apply ag|apply ai|refine z19 ?_|apply aa|apply aw)
         all_goals exact⟨[],rfl,ent_trans (dc 8 2 rfl) (aj (fun j=>match j with|0=>0|1=>7|j=>j) ⟨rfl,rfl,rfl,rfl,rfl,rfl,rfl,rfl,rfl,trivial⟩ ⟨rfl,rfl,rfl,trivial⟩ rfl rfl rfl rfl rfl rfl)⟩
        | true =>
         repeat' (first|(apply ds_slD;exact rfl;exact rfl;exact rfl;exact rfl;exact rfl;exact rfl;(refine⟨?_,?_,?_⟩ <;> (omega));((with_reducible apply hv_drop);(exact c7 _));exact rfl;exact rfl)|refine z0 ?_|apply ag|refine z16 ?_|refine z18 ?_|apply aa|apply aw)
         all_goals exact⟨(l.terms.take (l.terms.map bm).length).drop 2,by rw [List.take_of_length_le (by omega),hl4];rfl,aj (fun j=>match j with|0=>0|1=>7|j=>j) ⟨rfl,rfl,rfl,rfl,rfl,rfl,rfl,rfl,rfl,trivial⟩ ⟨rfl,rfl,rfl,trivial⟩ rfl rfl rfl rfl rfl rfl⟩
      ·have hf5:cd bs l=false:=by unfold cd;rw [decide_eq_false k1,decide_eq_false k4];rfl
       repeat' (first|refine z0 ?_|refine z12 ?_|apply ag|apply ae|refine z16 ?_|apply ah|apply ai|refine z19 ?_|apply aa|apply aw|(refine z23 ?_ ?_ <;> intro hg)|((fail_if_success (apply a8;exact rfl));apply a6;exact rfl;exact rfl;exact rfl;all_goals intro hg))
       all_goals first
        | exact absurd hg k1
        | exact absurd hg k4
        | exact⟨[],by rw [hf5];rfl,ent_trans (dc 8 2 rfl) (aj id ⟨rfl,rfl,rfl,rfl,rfl,rfl,rfl,rfl,rfl,trivial⟩ ⟨rfl,rfl,rfl,trivial⟩ rfl rfl rfl rfl rfl rfl)⟩
    ·rintro ts hts
     have hbs:ts.foldl setT bs=(r.body.take (i + 1)).foldl bLit b0:=by
      rw [← hf,hts]
      unfold bLit
      split <;> rfl
     have htok:∀ t∈ts,okT bs.length t:=by
      intro t ht
      rw [hbl]
      rw [hts] at ht
      split at ht
      ·exact hlok t (litTs_sub ht)
      ·simp at ht
     clear hts
     have lt:(ts.map bm).length=ts.length:=List.length_map _
     refine dw_len (t:=8) rfl (fun hkt=>?_)
     repeat' (first|refine z0 ?_|apply ag|apply ae|refine z16 ?_|apply ah|apply aa)
     refine bh (ι:=Nat × List Bool × Bool) (fun x=>⟨4,(52,.d (.slice 2 (ts.map bm)))::(53,.d (.int .i64 (ts.map bm).length))::(54,.d (.int .i64 x.1))::(17,.d (.slice 4 (r.body.map bp)))::(18,.d (.int .i64 (r.body.map bp).length))::(19,.d (.int .i64 i))::bndL x.2.2,bndH r x.2.1⟩)
      (fun x=>x.1≤ts.length∧x.2.1=(ts.take x.1).foldl setT bs∧Fl b0 x.2.1 x.2.2) (fun x=>ts.length - x.1)
      (0,bs,ch) ⟨Nat.zero_le _,rfl,f3⟩ (aj id ⟨rfl,rfl,rfl,rfl,rfl,rfl,rfl,rfl,rfl,rfl,rfl,trivial⟩ ⟨rfl,rfl,rfl,trivial⟩ rfl rfl rfl rfl rfl rfl) ?_
     rintro⟨j,bj,cj⟩ ⟨e1,e2,e3⟩
     dsimp only at e1 e2 e3 ⊢
     have hjl:bj.length=bs.length:=by rw [e2,setTs_len]
     by_cases hj:j < ts.length
     ·repeat' (first|refine z0 ?_|apply ag|apply ae|refine z16 ?_|apply ah|apply ai|apply aq|apply aa|apply ap|apply aw|refine z17 ?_|refine z1 ?_|refine z3 ?_|(refine z23 ?_ ?_ <;> intro hg)|fail)
      all_goals try (exfalso;omega)
      have hq:=htok ts[j] (List.getElem_mem hj)
      rw [← hjl] at hq
      have e4:=e3.step hq
      have e5:(ts.take (j + 1)).foldl setT bs=setT bj ts[j]:=by rw [foldl_take setT bs hj,← e2]
      refine ds_callVF (fun j=>match j with|0=>2|_=>1) (isFn bj ts[j] hq) rfl rfl rfl rfl rfl rfl ⟨rfl,rfl,trivial⟩ rfl rfl rfl rfl rfl rfl ?_ ?_
      ·rintro k2 res H2 ⟨rfl,rfl,rfl⟩
       exact⟨rfl,rfl⟩
      rintro k2 res H2 ⟨rfl,rfl,rfl⟩
      change DS _ _ _ _ _ _ _ _
      have lbj:(bj.map cu).length=bj.length:=List.length_map _
      cases hb:isT bj ts[j] with
      | true =>
       rw [hb,Bool.not_true,Bool.or_false,setT_same hb] at e4
       rw [setT_same hb] at e5
       repeat' (first|refine z0 ?_|apply ag|refine z16 ?_|apply ai|refine z19 ?_|apply aa|apply aw)
       exact⟨(j + 1,bj,cj),⟨by omega,e5.symm,e4⟩,aj (fun j=>match j with|0=>0|1=>6|j=>j) ⟨rfl,rfl,rfl,rfl,rfl,rfl,rfl,rfl,rfl,rfl,rfl,trivial⟩ ⟨rfl,rfl,rfl,trivial⟩ rfl rfl rfl rfl rfl rfl,by show ts.length - (j + 1) < ts.length - j;omega⟩
      | false =>
       obtain⟨_,hneg⟩:=setT_count hq hb
       have hset:setT bj ts[j]=bj.set ts[j].var.toNat true:=by unfold setT;rw [if_neg hneg]
       rw [hb,Bool.not_false,Bool.or_true,hset] at e4
       rw [hset] at e5
       unfold okT at hq
       repeat' (first|refine z0 ?_|apply ag|(apply ds_stP;exact rfl;exact rfl;(apply hv_get;(omega));exact rfl;exact rfl;(exact hv_set rfl);exact rfl;exact rfl;exact rfl;exact rfl;exact rfl;exact rfl)|apply ae|refine z16 ?_|refine z18 ?_|apply aa|apply aw)
       exact⟨(j + 1,bj.set ts[j].var.toNat true,true),⟨by omega,e5.symm,e4⟩,aj (fun j=>match j with|0=>0|1=>6|j=>j) ⟨rfl,rfl,rfl,rfl,rfl,rfl,rfl,rfl,rfl,rfl,rfl,trivial⟩ ⟨rfl,rfl,rfl,trivial⟩ rfl rfl rfl rfl rfl rfl,by show ts.length - (j + 1) < ts.length - j;omega⟩
     ·repeat' (first|refine z0 ?_|apply ag|apply ae|refine z16 ?_|apply ah|apply ai|apply aq|apply aa|apply ap|apply aw|refine z17 ?_|refine z1 ?_|refine z3 ?_|(refine z23 ?_ ?_ <;> intro hg)|fail)
      all_goals try (exfalso;omega)
      ·refine⟨(i + 1,bj,cj),⟨by omega,?_,e3⟩,aj id ⟨rfl,rfl,rfl,rfl,rfl,rfl,rfl,rfl,trivial⟩ ⟨rfl,rfl,rfl,trivial⟩ rfl rfl rfl rfl rfl rfl,by show r.body.length - (i + 1) < r.body.length - i;omega⟩
       dsimp only
       rw [← hbs,e2,List.take_of_length_le (by omega)]
   ·exfalso;omega
  ·repeat' (first|refine z0 ?_|refine z12 ?_|apply ag|apply ae|refine z16 ?_|apply ah|apply ai|apply aq|refine z19 ?_|apply aa|apply ap|apply aw|refine z17 ?_|refine z1 ?_|refine z3 ?_|(refine z23 ?_ ?_ <;> intro hg)|((fail_if_success (apply a8;exact rfl));apply a6;exact rfl;exact rfl;exact rfl;all_goals intro hg))
   all_goals try (exfalso;omega)
   ·refine⟨(ch,bs,m + 1),⟨?_,?_⟩,aj id ⟨rfl,rfl,rfl,rfl,rfl,trivial⟩ ⟨rfl,rfl,rfl,trivial⟩ rfl rfl rfl rfl rfl rfl,?_⟩
    ·dsimp only
     rw [bIter_succ,← g1,f2,List.take_of_length_le (by omega)];rfl
    ·rintro rfl
     have hb:=f3.2.2.1 rfl
     have hr:bs=bRound r.body b0:=by rw [f2,List.take_of_length_le (by omega)];rfl
     show bRound r.body bs=bs
     rw [hb]
     rw [hb] at hr
     exact hr.symm
    ·show 2 * bs.count false + (if ch=true then 1 else 0) < 2 * b0.count false + (if true=true then 1 else 0)
     have h1:=f3.2.1
     have h2:=f3.2.2.2
     cases ch with
     | false=>simp;omega
     | true=>have:=h2 rfl;simp;omega
theorem firstL_zero {α:Type} {f:α→Int}:∀ {l:List α},ce f l=0→∀ x∈l,f x=0
 | [],_,x,hx=>by simp at hx
 | y::l,h,x,hx=>by
  unfold ce at h
  split at h
  ·rename_i hn;exact absurd h hn
  ·rename_i hn
   rcases List.mem_cons.1 hx with rfl|hx
   ·exact Decidable.not_not.1 hn
   ·exact firstL_zero h x hx
theorem termE_ok {vars:Int} {t:Trm} (h0:0≤vars) (h:termE vars t=0):okT vars.toNat t:=by
 unfold termE at h
 split at h
 ·cases h
 ·rename_i hn
  rw [Bool.not_eq_false] at hn
  have:=inR_spec hn
  unfold okT
  omega
theorem litE_ok {ar:List Int} {vars:Int} {l:Ltl} (h0:0≤vars) (h:litE ar vars l=0):(∀ t∈l.terms,okT vars.toNat t)∧(l.kind=4→l.terms.length=3):=by
 have ht:termsE vars l.terms=0→∀ t∈l.terms,okT vars.toNat t:=fun h t ht=>termE_ok h0 (firstL_zero h t ht)
 unfold litE at h
 split at h
 ·cases h
 split at h
 ·cases h
 split at h
 ·split at h
  ·cases h
  split at h
  ·cases h
  exact⟨ht h,fun hk=>by omega⟩
 ·split at h
  ·cases h
  exact⟨ht h,fun hk=>by omega⟩
theorem any_false (l:List Bool):(l.any fun x=>eqB x false) = !l.all id:=by
 induction l with
 | nil=>rfl
 | cons b l ih=>rw [List.any_cons,List.all_cons,ih];cases b <;> rfl
abbrev prgB (p:Prg):HB:=.blk 26 [.d (.slice 1 (p.arity.map bf)),.d (.slice 1 (p.names.map encT)),.d (.slice 5 (p.rules.map co))]
set_option maxHeartbeats 8000000 in
theorem rule_fn (p:Prg) (r:Rul):Fn 123 [elPrg p,elRul r] (fun x=>x = .d (.int .i64 (ruleE p.arity r))):=by
 refine au _ Tryz.func123 rfl rfl (by kernel_rfl) ?_
 intro O w0 E0 β0
 have la:(p.arity.map bf).length=p.arity.length:=List.length_map _
 have lb:(r.terms.map bm).length=r.terms.length:=List.length_map _
 have lc:(r.body.map bp).length=r.body.length:=List.length_map _
 refine dw_lenA 0 0 rfl rfl (fun hk=>?_)
 refine dw_lenA 1 1 rfl rfl (fun hk2=>?_)
 refine dw_lenA 1 3 rfl rfl (fun hk3=>?_)
 have w1:=swithin_fn r.pred 0 (((p.arity.map bf).length:Int) - 1)
 have w2:=swithin_fn r.vars 0 8
 have w3:=swithin_fn r.fold 0 4
 unfold ruleE
 rw [← la,← lb,← lc]
 by_cases hp:inR r.pred 0 (((p.arity.map bf).length:Int) - 1)=true
 ·have hp':=inR_spec hp
  have hA:=arity_at (p:=p) (n:=r.pred) (by omega) (by omega)
  rw [hp] at w1 ⊢
  rw [if_neg (show ¬ (true=false) by decide),hA]
  by_cases hv:inR r.vars 0 8=true
  ·have hv':=inR_spec hv
   rw [hv] at w2 ⊢
   rw [if_neg (show ¬ (true=false) by decide)]
   have w4:=terms_fn r.terms r.vars hv'.1 hv'.2
   clear hv hp hA
   have w5:=fun l=>lit_fn p l r.vars hv'.1 hv'.2
   generalize termsE r.vars r.terms=te at w4 ⊢
   generalize inR r.fold 0 4=fo at w3 ⊢
   repeat' (first|refine z0 ?_|refine z12 ?_|apply ag|refine z5 ?_|refine z10 ?_|apply ae|refine z16 ?_|refine z20 ?_|apply ah|apply ai|apply ak|refine z18 ?_|refine z19 ?_|apply aa|apply av|apply aw|apply bq|refine z21 ?_ (hc:=by apply w1)|refine z21 ?_ (hc:=by apply w2)|refine z21 ?_ (hc:=by apply w3)|refine z21 ?_ (hc:=by apply w4)|refine z1 ?_|(refine z23 ?_ ?_ <;> intro hg)|(apply bu;exact rfl;all_goals intro hg)|((fail_if_success (apply a8;exact rfl));apply a6;exact rfl;exact rfl;exact rfl;all_goals intro hg))
   all_goals try (refine cb rfl ?_;(repeat' split) <;> (first|rfl|(exfalso;omega)|(exfalso;simp_all;done)))
   all_goals
    have hfin:∀ e,ce (litE p.arity r.vars) r.body=e→(if (((r.terms.map bm).length:Nat):Int)≠p.arity[r.pred.toNat]'(by omega) then 1 else if te≠0 then te else if fo=false then 7 else if r.fold≠0∧((r.terms.map bm).length=0∨(r.body.map bp).length=0) then 1 else if 4 < (r.body.map bp).length then 2 else if ce (litE p.arity r.vars) r.body≠0 then ce (litE p.arity r.vars) r.body else if safeB r=false then 4 else 0)=if e≠0 then e else if safeB r=false then 4 else 0:=by
     rintro e rfl
     (repeat' split) <;> (first|rfl|(exfalso;omega)|(exfalso;simp_all;done))
    generalize (if (((r.terms.map bm).length:Nat):Int)≠p.arity[r.pred.toNat]'(by omega) then 1 else if te≠0 then te else if fo=false then 7 else if r.fold≠0∧((r.terms.map bm).length=0∨(r.body.map bp).length=0) then 1 else if 4 < (r.body.map bp).length then 2 else if ce (litE p.arity r.vars) r.body≠0 then ce (litE p.arity r.vars) r.body else if safeB r=false then 4 else 0)=res at hfin ⊢
    refine bh (ι:=Nat) (fun i=>⟨2,[(2,.loc 0 0),(3,.loc 1 0),(4,.d (.int .i64 0)),(69,.d (.slice 4 (r.body.map bp))),(70,.d (.int .i64 (r.body.map bp).length)),(71,.d (.int .i64 i))],[(0,prgB p),(1,ruleB r)]⟩)
     (fun i=>i≤r.body.length∧ce (litE p.arity r.vars) r.body=ce (litE p.arity r.vars) (r.body.drop i)) (fun i=>r.body.length - i) 0 ⟨Nat.zero_le _,rfl⟩ (aj id ⟨rfl,rfl,rfl,rfl,rfl,rfl,trivial⟩ ⟨rfl,rfl,trivial⟩ rfl rfl rfl rfl rfl rfl) ?_
    rintro i ⟨g1,g2⟩
    by_cases hi:i < r.body.length
    ·rw [firstL_step hi] at g2
     have w6:=w5 r.body[i]
     generalize litE p.arity r.vars r.body[i]=le at w6 g2
     repeat' (first|refine z0 ?_|apply ag|apply ae|refine z16 ?_|apply ah|apply ai|apply aq|apply ak|apply aa|apply ap|apply av|apply aw|apply bq|refine z17 ?_|refine z21 ?_ (hc:=by apply w6)|refine z1 ?_|refine z3 ?_|(refine z23 ?_ ?_ <;> intro hg)|fail)
     all_goals first
      | (exfalso;omega)
      | (refine cb rfl ?_;rw [hfin le (by rw [g2,if_pos (by assumption)]),if_pos (by assumption)];done)
      | exact⟨i + 1,⟨by omega,by rw [g2,if_neg (by assumption)]⟩,aj id ⟨rfl,rfl,rfl,rfl,rfl,rfl,trivial⟩ ⟨rfl,rfl,trivial⟩ rfl rfl rfl rfl rfl rfl,by show r.body.length - (i + 1) < r.body.length - i;omega⟩
    ·rw [firstL_end (by omega)] at g2
     have hall:=firstL_zero g2
     have w7:=bound_fn r hv'.1 hv'.2 (fun l hl=>(litE_ok hv'.1 (hall l hl)).1) (fun l hl=>(litE_ok hv'.1 (hall l hl)).2)
     have w8:=containsB_fn false (boundL r)
     rw [any_false] at w8
     rw [hfin 0 g2,if_neg (by decide)]
     unfold safeB
     generalize (boundL r).all id=sb at w8 ⊢
     repeat' (first|refine z0 ?_|apply ag|apply ae|refine z16 ?_|apply ah|apply ai|apply aq|apply ak|apply aa|apply ap|apply av|refine z17 ?_|refine z21 ?_ (hc:=by apply w7)|refine z21 ?_ (hc:=by apply w8)|refine z1 ?_|refine z3 ?_|(refine z23 ?_ ?_ <;> intro hg)|(apply bu;exact rfl;all_goals intro hg))
     all_goals first
      | (exfalso;omega)
      | (refine cb rfl ?_;simp_all;done)
  ·rw [Bool.not_eq_true] at hv
   rw [hv] at w2 ⊢
   repeat' (first|refine z0 ?_|apply ag|refine z5 ?_|refine z10 ?_|apply ae|refine z16 ?_|refine z20 ?_|apply ah|apply ak|refine z18 ?_|refine z19 ?_|apply aa|apply av|apply bq|refine z21 ?_ (hc:=by apply w1)|refine z21 ?_ (hc:=by apply w2)|refine z1 ?_|(refine z23 ?_ ?_ <;> intro hg)|fail)
   all_goals exact cb rfl (by simp_all)
 ·rw [Bool.not_eq_true] at hp
  rw [hp] at w1 ⊢
  rw [if_pos rfl]
  repeat' (first|refine z0 ?_|apply ag|apply ae|refine z16 ?_|apply ah|apply ak|refine z18 ?_|apply aa|apply av|apply bq|refine z21 ?_ (hc:=by apply w1)|refine z1 ?_|fail)
  all_goals exact cb rfl rfl
set_option maxHeartbeats 8000000 in
theorem check_fn (p:Prg):Fn 85 [elPrg p] (fun x=>x = .d (.int .i64 (progE nameS p))):=by
 refine au _ Tryz.func85 rfl rfl (by kernel_rfl) ?_
 intro O w0 E0 β0
 have la:(p.arity.map bf).length=p.arity.length:=List.length_map _
 have lb:(p.names.map encT).length=p.names.length:=List.length_map _
 have lc:(p.rules.map co).length=p.rules.length:=List.length_map _
 refine dw_lenA 0 0 rfl rfl (fun hk=>?_)
 refine dw_lenA 0 2 rfl rfl (fun hk2=>?_)
 unfold progE
 by_cases h1:10 < p.arity.length∨12 < p.rules.length
 ·rw [if_pos h1]
  repeat' (first|refine z0 ?_|refine z12 ?_|apply ag|apply ae|refine z16 ?_|apply ah|apply ai|apply ak|refine z18 ?_|apply aa|apply av|apply aw|apply bq|refine z1 ?_|(refine z23 ?_ ?_ <;> intro hg)|((fail_if_success (apply a8;exact rfl));apply a6;exact rfl;exact rfl;exact rfl;all_goals intro hg))
  all_goals first
   | (exfalso;omega)
   | exact cb rfl rfl
 ·rw [if_neg h1]
  by_cases h2:p.names.length≠p.arity.length
  ·rw [if_pos h2]
   repeat' (first|refine z0 ?_|refine z12 ?_|apply ag|apply ae|refine z16 ?_|apply ah|apply ai|apply ak|refine z18 ?_|apply aa|apply av|apply aw|apply bq|refine z1 ?_|(refine z23 ?_ ?_ <;> intro hg)|((fail_if_success (apply a8;exact rfl));apply a6;exact rfl;exact rfl;exact rfl;all_goals intro hg))
   all_goals first
    | (exfalso;omega)
    | exact cb rfl rfl
  ·rw [if_neg h2]
   have w1:=preds_fn p (by omega)
   generalize firstI (nameE nameS p) 0 p.names.length=ne at w1 ⊢
   repeat' (first|refine z0 ?_|refine z12 ?_|apply ag|apply ae|refine z16 ?_|apply ah|apply ai|apply ak|refine z18 ?_|apply aa|apply av|apply aw|apply bq|refine z21 ?_ (hc:=by apply w1)|refine z1 ?_|(refine z23 ?_ ?_ <;> intro hg)|((fail_if_success (apply a8;exact rfl));apply a6;exact rfl;exact rfl;exact rfl;all_goals intro hg))
   all_goals try (exfalso;omega)
   ·exact cb rfl (by rw [if_pos hg])
   rw [if_neg hg]
   refine bh (ι:=Nat) (fun i=>⟨1,[(1,.loc 0 0),(2,.d (.int .i64 0)),(32,.d (.slice 5 (p.rules.map co))),(33,.d (.int .i64 (p.rules.map co).length)),(34,.d (.int .i64 i))],[(0,prgB p)]⟩)
    (fun i=>i≤p.rules.length∧ce (ruleE p.arity) p.rules=ce (ruleE p.arity) (p.rules.drop i)) (fun i=>p.rules.length - i) 0 ⟨Nat.zero_le _,rfl⟩ (aj id ⟨rfl,rfl,rfl,rfl,rfl,trivial⟩ ⟨rfl,trivial⟩ rfl rfl rfl rfl rfl rfl) ?_
   rintro i ⟨g1,g2⟩
   by_cases hi:i < p.rules.length
   ·rw [firstL_step hi] at g2
    have w6:=rule_fn p p.rules[i]
    generalize ruleE p.arity p.rules[i]=le at w6 g2
    repeat' (first|refine z0 ?_|apply ag|apply ae|refine z16 ?_|apply ah|apply ai|apply aq|apply ak|apply aa|apply ap|apply av|apply aw|apply bq|refine z17 ?_|refine z21 ?_ (hc:=by apply w6)|refine z1 ?_|refine z3 ?_|(refine z23 ?_ ?_ <;> intro hg)|fail)
    all_goals first
     | (exfalso;omega)
     | (refine cb rfl ?_;rw [g2,if_pos (by assumption)];done)
     | exact⟨i + 1,⟨by omega,by rw [g2,if_neg (by assumption)]⟩,aj id ⟨rfl,rfl,rfl,rfl,rfl,trivial⟩ ⟨rfl,trivial⟩ rfl rfl rfl rfl rfl rfl,by show p.rules.length - (i + 1) < p.rules.length - i;omega⟩
   ·rw [firstL_end (by omega)] at g2
    repeat' (first|refine z0 ?_|apply ag|apply ae|refine z16 ?_|apply ah|apply ai|apply aq|apply ak|apply aa|apply ap|refine z17 ?_|refine z1 ?_|refine z3 ?_|(refine z23 ?_ ?_ <;> intro hg)|fail)
    all_goals first
     | (exfalso;omega)
     | exact cb rfl g2.symm
theorem sbetween_fn (n a b:Int):Fn 53 [.d (.int .i64 n),.d (.int .i64 a),.d (.int .i64 b)] (fun r=>r = .d (.bool (inR n a b))):=between_fn n a b
set_option maxHeartbeats 8000000 in
theorem sisNumber_fn (n:Int):Fn 15 [.d (.int .i64 n)] (fun r=>r = .d (.bool (numB n))):=by
 refine au _ Tryz.func15 rfl rfl (by kernel_rfl) ?_
 intro O w0 E0 β0
 unfold numB
 repeat' (first|refine z0 ?_|apply ag|apply ae|refine z16 ?_|apply ak|apply aa|refine z21 ?_ (hc:=by apply sbetween_fn)|fail)
 exact db rfl rfl
set_option maxHeartbeats 8000000 in
theorem rterms_fn (l:List Trm) (vars:Int) (h0:0≤vars) (h8:vars≤8):Fn 144 [.d (.slice 2 (l.map bm)),.d (.int .i64 vars)] (fun r=>r = .d (.int .i64 (termsE vars l))):=by
 refine au _ Tryz.func144 rfl rfl (by kernel_rfl) ?_
 intro O w0 E0 β0
 have la:(l.map bm).length=l.length:=List.length_map _
 unfold termsE
 refine dw_len (t:=0) rfl (fun hk=>?_)
 repeat' (first|refine z0 ?_|apply ag|apply ae|refine z16 ?_|apply ah|apply aa)
 refine bh (ι:=Nat) (fun i=>⟨0,[(0,.d (.slice 2 (l.map bm))),(1,.d (.int .i64 vars)),(4,.d (.int .i64 0)),(5,.d (.int .i64 i))],[]⟩)
  (fun i=>i≤l.length∧ce (termE vars) l=ce (termE vars) (l.drop i)) (fun i=>l.length - i) 0 ⟨Nat.zero_le _,rfl⟩ (aj id ⟨rfl,rfl,rfl,rfl,trivial⟩ trivial rfl rfl rfl rfl rfl rfl) ?_
 rintro i ⟨g1,g2⟩
 by_cases hi:i < l.length
 ·rw [firstL_step hi,show termE vars l[i]=if inR l[i].var (-1) (vars - 1)=false then 5 else if numB l[i].n=false∨(0≤l[i].var∧l[i].n≠0) then 3 else 0 from rfl] at g2
  repeat' (first|refine z0 ?_|refine z12 ?_|apply ag|apply ae|refine z16 ?_|apply ah|apply ai|apply aq|apply ak|refine z18 ?_|refine z19 ?_|apply aa|apply ap|apply av|apply aw|apply bq|refine z17 ?_|refine z21 ?_ (hc:=by apply sbetween_fn)|refine z21 ?_ (hc:=by apply sisNumber_fn)|(refine z23 ?_ ?_ <;> intro hg)|(apply bu;exact rfl;all_goals intro hg)|((fail_if_success (apply a8;exact rfl));apply a6;exact rfl;exact rfl;exact rfl;all_goals intro hg)|((fail_if_success (apply a8;exact rfl));apply ds_guardB;exact rfl;exact rfl;exact rfl;all_goals intro hg))
  all_goals first
   | exact absurd hg (by omega)
   | exact cb rfl (by rw [g2];simp_all <;> omega)
   | exact⟨i + 1,⟨by omega,by rw [g2];simp_all <;> omega⟩,aj id ⟨rfl,rfl,rfl,rfl,trivial⟩ trivial rfl rfl rfl rfl rfl rfl,by show l.length - (i + 1) < l.length - i;omega⟩
 ·rw [firstL_end (by omega)] at g2
  repeat' (first|refine z0 ?_|refine z12 ?_|apply ag|apply ae|refine z16 ?_|apply ah|apply ai|apply aq|apply ak|refine z18 ?_|refine z19 ?_|apply aa|apply ap|apply av|apply aw|apply bq|refine z17 ?_|refine z21 ?_ (hc:=by apply sbetween_fn)|refine z21 ?_ (hc:=by apply sisNumber_fn)|(refine z23 ?_ ?_ <;> intro hg)|(apply bu;exact rfl;all_goals intro hg)|((fail_if_success (apply a8;exact rfl));apply a6;exact rfl;exact rfl;exact rfl;all_goals intro hg)|((fail_if_success (apply a8;exact rfl));apply ds_guardB;exact rfl;exact rfl;exact rfl;all_goals intro hg))
  all_goals first
   | exact absurd hg (by omega)
   | exact cb rfl g2.symm
set_option maxHeartbeats 8000000 in
theorem isWord_fn (s:ByteArray):Fn 143 [.d (.str s)] (fun r=>r = .d (.bool (wordB s))):=by
 refine au _ Tryz.func143 rfl rfl (by kernel_rfl) ?_
 intro O w0 E0 β0
 unfold wordB wordsL
 repeat' (first|refine z0 ?_|refine z12 ?_|apply ag|apply ae|refine z16 ?_|apply ak|apply aa|((fail_if_success (apply a8;exact rfl));apply a6;exact rfl;exact rfl;exact rfl;all_goals intro hg))
 all_goals exact db rfl (by simp_all [eqS])
def nameR (s:ByteArray):Bool:=isTok 1 s && !wordB s
set_option maxHeartbeats 8000000 in
theorem isName_fn (s:ByteArray):Fn 104 [.d (.str s)] (fun r=>r = .d (.bool (nameR s))):=by
 refine au _ Tryz.func104 rfl rfl (by kernel_rfl) ?_
 intro O w0 E0 β0
 unfold nameR
 repeat' (first|refine z0 ?_|refine z12 ?_|apply ag|apply ae|refine z16 ?_|apply ak|apply aa|refine z21 ?_ (hc:=by apply isToken_fn)|refine z21 ?_ (hc:=by apply isWord_fn)|((fail_if_success (apply a8;exact rfl));apply ds_guardB;exact rfl;exact rfl;exact rfl;all_goals intro hg))
 all_goals exact db rfl (by simp_all)
def firstOf (bs:List Bool) (l:Ltl):Nat:=if l.kind=4 then (if cd bs l then 2 else 3) else 0
theorem bLit_first {bs:List Bool} {l:Ltl} (h3:l.kind=4→l.terms.length=3):bLit bs l=if l.kind=1∨l.kind=4 then (l.terms.drop (firstOf bs l)).foldl setT bs else bs:=by
 unfold bLit firstOf litTs
 by_cases k1:l.kind=1
 ·have hf:cd bs l=true:=by unfold cd;rw [decide_eq_true k1];rfl
  simp [hf,k1]
 ·by_cases k4:l.kind=4
  ·cases hf:cd bs l with
   | true=>simp [k4]
   | false =>
    have hd:l.terms.drop 3=[]:=List.drop_of_length_le (by have:=h3 k4;omega)
    simp [k4,hd]
  ·have hf:cd bs l=false:=by unfold cd;rw [decide_eq_false k1,decide_eq_false k4];rfl
   simp [hf,k1,k4]
abbrev litB (l:Ltl):HB:=.blk 40 [.d (.int .i64 l.kind),.d (.int .i64 l.op),.d (.int .i64 l.pred),.d (.slice 2 (l.terms.map bm))]
set_option maxHeartbeats 8000000 in
theorem safe_fn (r:Rul) (hb4:r.body.length≤4) (h0:0≤r.vars) (h8:r.vars≤8) (hok:∀ l∈r.body,∀ t∈l.terms,okT r.vars.toNat t) (h3:∀ l∈r.body,l.kind=4→l.terms.length=3) :
  Fn 145 [elRul r] (fun x=>x = .d (.bool (safeB r))):=by
 refine au _ Tryz.func145 rfl rfl (by kernel_rfl) ?_
 intro O w0 E0 β0
 have lb:(r.body.map bp).length=r.body.length:=List.length_map _
 refine dw_lenA 0 3 rfl rfl (fun hk=>?_)
 repeat' (first|refine z0 ?_|apply ag|apply ae|refine z16 ?_|apply aa|refine z1 ?_|fail)
 refine ds_mk ((List.replicate r.vars.toNat false).map cu) rfl rfl (Int.toNat_of_nonneg h0).symm rfl rfl rfl rfl rfl rfl (by show 1 * _≤_;omega) (by unfold maxLen;omega) (by rw [List.map_replicate];rfl) rfl rfl ?_
 repeat' (first|refine z0 ?_|apply ag|apply ae|refine z16 ?_|apply ah|apply aa)
 refine bh (ι:=Nat × List Bool) (fun x=>⟨2,[(1,.loc 0 0),(2,.d (.bool false)),(3,.row 1),(4,.d (.int .i64 x.1))],[(0,ruleB r),(1,.row 4 1 (x.2.map cu))]⟩)
  (fun x=>x.1≤r.body.length + 1∧x.2=bIter r.body x.1 (List.replicate r.vars.toNat false)) (fun x=>r.body.length + 1 - x.1)
  (0,List.replicate r.vars.toNat false) ⟨Nat.zero_le _,rfl⟩ (aj id ⟨rfl,rfl,rfl,rfl,trivial⟩ ⟨rfl,rfl,trivial⟩ rfl rfl rfl rfl rfl rfl) ?_
 rintro⟨n,b0⟩ ⟨g1,g2⟩
 dsimp only at g1 g2 ⊢
 have hlen:b0.length=r.vars.toNat:=by rw [g2,bIter_len,List.length_replicate]
 by_cases hn:n < r.body.length + 1
 ·repeat' (first|refine z0 ?_|apply ag|apply ae|refine z16 ?_|apply ah|apply ai|apply aq|apply aa|apply ap|refine z17 ?_|(refine z23 ?_ ?_ <;> intro hg)|fail)
  all_goals try (exfalso;omega)
  refine bh (ι:=Nat × List Bool) (fun x=>⟨2,[(1,.loc 0 0),(2,.d (.bool false)),(3,.row 1),(4,.d (.int .i64 n)),(5,.d (.int .i64 x.1))],[(0,ruleB r),(1,.row 4 1 (x.2.map cu))]⟩)
   (fun x=>x.1≤r.body.length∧x.2=(r.body.take x.1).foldl bLit b0) (fun x=>r.body.length - x.1)
   (0,b0) ⟨Nat.zero_le _,rfl⟩ (aj id ⟨rfl,rfl,rfl,rfl,rfl,trivial⟩ ⟨rfl,rfl,trivial⟩ rfl rfl rfl rfl rfl rfl) ?_
  rintro⟨i,bs⟩ ⟨f1,f2⟩
  dsimp only at f1 f2 ⊢
  have hbl:bs.length=r.vars.toNat:=by rw [f2,bLits_len,hlen]
  by_cases hi:i < r.body.length
  ·have hlok:=hok r.body[i] (List.getElem_mem hi)
   have h3':=h3 r.body[i] (List.getElem_mem hi)
   have hf:bLit bs r.body[i]=(r.body.take (i + 1)).foldl bLit b0:=by rw [foldl_take bLit b0 hi,← f2]
   rw [bLit_first h3'] at hf
   repeat' ((fail_if_success (apply dw_stopR 10));(first|refine z0 ?_|apply ag|apply ae|refine z16 ?_|apply ah|apply ai|apply aq|apply aa|apply ap|apply aw|refine z17 ?_|refine z1 ?_|refine z3 ?_|(refine z23 ?_ ?_ <;> intro hg)|fail))
   all_goals try (exfalso;omega)
   generalize r.body[i]=l at hlok h3' hf ⊢
   have ll:(l.terms.map bm).length=l.terms.length:=List.length_map _
   have lbs:(bs.map cu).length=bs.length:=List.length_map _
   refine dw_cut (ι:=Unit) (fun _=>⟨3,[(1,.loc 0 0),(2,.d (.bool false)),(3,.row 1),(4,.d (.int .i64 n)),(5,.d (.int .i64 i)),(6,.loc 2 0),(7,.d (.int .i64 (firstOf bs l)))],[(0,ruleB r),(1,.row 4 1 (bs.map cu)),(2,litB l)]⟩) (fun _=>True) ?_ ?_
   ·by_cases k4:l.kind=4
    ·have h3l:=h3' k4
     have hf4:=fires4 (bs:=bs) (by omega) k4 h3l
     have hlok':∀ t∈l.terms,okT bs.length t:=by rw [hbl];exact hlok
     repeat' (first|refine z0 ?_|apply ag|apply ae|refine z16 ?_|apply ah|apply ai|apply aa|(refine z23 ?_ ?_ <;> intro hg)|fail)
     all_goals try (exfalso;omega)
     refine bh (ι:=Nat × Int) (fun x=>⟨3,[(1,.loc 0 0),(2,.d (.bool false)),(3,.row 1),(4,.d (.int .i64 n)),(5,.d (.int .i64 i)),(6,.loc 2 0),(7,.d (.int .i64 x.2)),(8,.d (.int .i64 x.1))],[(0,ruleB r),(1,.row 4 1 (bs.map cu)),(2,litB l)]⟩)
      (fun x=>x.1≤2∧x.2=if (l.terms.take x.1).all (isT bs) then 2 else 3) (fun x=>2 - x.1)
      (0,2) ⟨Nat.zero_le _,rfl⟩ (aj id ⟨rfl,rfl,rfl,rfl,rfl,rfl,rfl,rfl,trivial⟩ ⟨rfl,rfl,rfl,trivial⟩ rfl rfl rfl rfl rfl rfl) ?_
     rintro⟨j,f⟩ ⟨e1,e2⟩
     dsimp only at e1 e2 ⊢
     by_cases hj:j < 2
     ·have hq:=hlok' (l.terms[j]'(by omega)) (List.getElem_mem _)
      have e3:(l.terms.take (j + 1)).all (isT bs)=((l.terms.take j).all (isT bs) && isT bs (l.terms[j]'(by omega))):=by
       rw [List.take_succ_eq_append_getElem (by omega),List.all_append]
       simp
      by_cases hneg:(l.terms[j]'(by omega)).var < 0
      ·rw [isT_pos hneg,Bool.and_true] at e3
       repeat' (first|refine z0 ?_|refine z12 ?_|apply ag|apply ae|refine z16 ?_|apply ah|apply ai|apply aq|refine z19 ?_|apply aa|apply ap|apply aw|refine z17 ?_|(refine z23 ?_ ?_ <;> intro hg)|(apply bu;exact rfl;all_goals intro hg)|((fail_if_success (apply a8;exact rfl));apply a6;exact rfl;exact rfl;exact rfl;all_goals intro hg))
       all_goals try (exfalso;omega)
       all_goals exact⟨(j + 1,f),⟨by omega,by dsimp only;rw [e3,e2]⟩,aj id ⟨rfl,rfl,rfl,rfl,rfl,rfl,rfl,rfl,trivial⟩ ⟨rfl,rfl,rfl,trivial⟩ rfl rfl rfl rfl rfl rfl,by show 2 - (j + 1) < 2 - j;omega⟩
      ·rw [isT_neg hneg hq] at e3
       unfold okT at hq
       repeat' (first|refine z0 ?_|refine z12 ?_|apply ag|apply ae|refine z16 ?_|apply ah|apply ai|apply aq|refine z19 ?_|apply aa|apply ap|apply aw|refine z17 ?_|(refine z23 ?_ ?_ <;> intro hg)|(apply bu;exact rfl;all_goals intro hg)|((fail_if_success (apply a8;exact rfl));apply a6;exact rfl;exact rfl;exact rfl;all_goals intro hg))
       all_goals try (exfalso;omega)
       ·have hb:bs[(l.terms[j]'(by omega)).var.toNat]'(by omega)=false:=by simpa using hg
        exact⟨(j + 1,3),⟨by omega,by dsimp only;rw [e3,hb,Bool.and_false];rfl⟩,aj id ⟨rfl,rfl,rfl,rfl,rfl,rfl,rfl,rfl,trivial⟩ ⟨rfl,rfl,rfl,trivial⟩ rfl rfl rfl rfl rfl rfl,by show 2 - (j + 1) < 2 - j;omega⟩
       ·have hb:bs[(l.terms[j]'(by omega)).var.toNat]'(by omega)=true:=by simpa using hg
        exact⟨(j + 1,f),⟨by omega,by dsimp only;rw [e3,hb,Bool.and_true,e2]⟩,aj id ⟨rfl,rfl,rfl,rfl,rfl,rfl,rfl,rfl,trivial⟩ ⟨rfl,rfl,rfl,trivial⟩ rfl rfl rfl rfl rfl rfl,by show 2 - (j + 1) < 2 - j;omega⟩
     ·repeat' (first|refine z0 ?_|refine z12 ?_|apply ag|apply ae|refine z16 ?_|apply ah|apply ai|apply aq|refine z19 ?_|apply aa|apply ap|apply aw|refine z17 ?_|(refine z23 ?_ ?_ <;> intro hg)|(apply bu;exact rfl;all_goals intro hg)|((fail_if_success (apply a8;exact rfl));apply a6;exact rfl;exact rfl;exact rfl;all_goals intro hg))
      all_goals try (exfalso;omega)
      refine⟨(),trivial,?_⟩
      have hff:f=(firstOf bs l:Int):=by
       unfold firstOf
       rw [if_pos k4,e2,show j=2 by omega]
       have:cd bs l=(l.terms.take 2).all (isT bs):=by unfold cd;rw [decide_eq_false (by omega),decide_eq_true k4];simp
       rw [this]
       split <;> rfl
      rw [hff]
      exact aj id ⟨rfl,rfl,rfl,rfl,rfl,rfl,rfl,trivial⟩ ⟨rfl,rfl,rfl,trivial⟩ rfl rfl rfl rfl rfl rfl
    ·repeat' (first|refine z0 ?_|apply ag|apply ae|refine z16 ?_|apply ah|apply ai|apply aa|(refine z23 ?_ ?_ <;> intro hg)|fail)
     all_goals try (exfalso;omega)
     refine⟨(),trivial,?_⟩
     unfold firstOf
     rw [if_neg k4]
     exact aj id ⟨rfl,rfl,rfl,rfl,rfl,rfl,rfl,trivial⟩ ⟨rfl,rfl,rfl,trivial⟩ rfl rfl rfl rfl rfl rfl
   ·intro _ _
    have hfl:firstOf bs l≤3:=by unfold firstOf;split <;> (try split) <;> omega
    refine dw_lenC 2 3 rfl rfl (fun hkl=>?_)
    repeat' (first|refine z0 ?_|apply ag|apply ae|refine z16 ?_|apply ah|apply aa)
    by_cases hk14:l.kind=1∨l.kind=4
    ·rw [if_pos hk14] at hf
     have hlok':∀ t∈l.terms,okT bs.length t:=by rw [hbl];exact hlok
     refine bh (ι:=Nat × List Bool) (fun x=>⟨3,[(1,.loc 0 0),(2,.d (.bool false)),(3,.row 1),(4,.d (.int .i64 n)),(5,.d (.int .i64 i)),(6,.loc 2 0),(9,.d (.int .i64 x.1))],[(0,ruleB r),(1,.row 4 1 (x.2.map cu)),(2,litB l)]⟩)
      (fun x=>x.2.length=bs.length∧(l.terms.drop x.1).foldl setT x.2=(l.terms.drop (firstOf bs l)).foldl setT bs∧x.1≤l.terms.length + 3) (fun x=>l.terms.length + 3 - x.1)
      (firstOf bs l,bs) ⟨rfl,rfl,by dsimp only;omega⟩ (aj id ⟨rfl,rfl,rfl,rfl,rfl,rfl,rfl,trivial⟩ ⟨rfl,rfl,rfl,trivial⟩ rfl rfl rfl rfl rfl rfl) ?_
     rintro⟨j,bj⟩ ⟨e1,e2,e3⟩
     dsimp only at e1 e2 e3 ⊢
     have lbj:(bj.map cu).length=bj.length:=List.length_map _
     by_cases hj:j < l.terms.length
     ·have hq:=hlok' l.terms[j] (List.getElem_mem hj)
      rw [← e1] at hq
      rw [List.drop_eq_getElem_cons hj,List.foldl_cons] at e2
      by_cases hneg:l.terms[j].var < 0
      ·have hst:setT bj l.terms[j]=bj:=by unfold setT;rw [if_pos hneg]
       rw [hst] at e2
       repeat' (first|refine z0 ?_|refine z12 ?_|apply ag|(apply ds_stP;exact rfl;exact rfl;(apply hv_get;(omega));exact rfl;exact rfl;(exact hv_set rfl);exact rfl;exact rfl;exact rfl;exact rfl;exact rfl;exact rfl)|apply ae|refine z16 ?_|apply ah|apply ai|apply aq|refine z18 ?_|refine z19 ?_|apply aa|apply ap|apply aw|refine z17 ?_|(refine z23 ?_ ?_ <;> intro hg)|((fail_if_success (apply a8;exact rfl));apply a6;exact rfl;exact rfl;exact rfl;all_goals intro hg))
       all_goals try (exfalso;omega)
       all_goals exact⟨(j + 1,bj),⟨e1,e2,by dsimp only;omega⟩,aj id ⟨rfl,rfl,rfl,rfl,rfl,rfl,rfl,trivial⟩ ⟨rfl,rfl,rfl,trivial⟩ rfl rfl rfl rfl rfl rfl,by show l.terms.length + 3 - (j + 1) < l.terms.length + 3 - j;omega⟩
      ·have hst:setT bj l.terms[j]=bj.set l.terms[j].var.toNat true:=by unfold setT;rw [if_neg hneg]
       rw [hst] at e2
       unfold okT at hq
       repeat' (first|refine z0 ?_|refine z12 ?_|apply ag|(apply ds_stP;exact rfl;exact rfl;(apply hv_get;(omega));exact rfl;exact rfl;(exact hv_set rfl);exact rfl;exact rfl;exact rfl;exact rfl;exact rfl;exact rfl)|apply ae|refine z16 ?_|apply ah|apply ai|apply aq|refine z18 ?_|refine z19 ?_|apply aa|apply ap|apply aw|refine z17 ?_|(refine z23 ?_ ?_ <;> intro hg)|((fail_if_success (apply a8;exact rfl));apply a6;exact rfl;exact rfl;exact rfl;all_goals intro hg))
       all_goals try (exfalso;omega)
       all_goals exact⟨(j + 1,bj.set l.terms[j].var.toNat true),⟨by dsimp only;rw [List.length_set];exact e1,e2,by dsimp only;omega⟩,aj id ⟨rfl,rfl,rfl,rfl,rfl,rfl,rfl,trivial⟩ ⟨rfl,rfl,rfl,trivial⟩ rfl rfl rfl rfl rfl rfl,by show l.terms.length + 3 - (j + 1) < l.terms.length + 3 - j;omega⟩
     ·rw [List.drop_of_length_le (by omega)] at e2
      have e2:bj=(l.terms.drop (firstOf bs l)).foldl setT bs:=e2
      repeat' (first|refine z0 ?_|refine z12 ?_|apply ag|(apply ds_stP;exact rfl;exact rfl;(apply hv_get;(omega));exact rfl;exact rfl;(exact hv_set rfl);exact rfl;exact rfl;exact rfl;exact rfl;exact rfl;exact rfl)|apply ae|refine z16 ?_|apply ah|apply ai|apply aq|refine z18 ?_|refine z19 ?_|apply aa|apply ap|apply aw|refine z17 ?_|(refine z23 ?_ ?_ <;> intro hg)|((fail_if_success (apply a8;exact rfl));apply a6;exact rfl;exact rfl;exact rfl;all_goals intro hg))
      all_goals try (exfalso;omega)
      all_goals exact⟨(i + 1,bj),⟨by omega,by dsimp only;rw [e2,hf]⟩,aj id ⟨rfl,rfl,rfl,rfl,rfl,trivial⟩ ⟨rfl,rfl,trivial⟩ rfl rfl rfl rfl rfl rfl,by show r.body.length - (i + 1) < r.body.length - i;omega⟩
    ·rw [if_neg hk14] at hf
     refine bh (ι:=Unit) (fun _=>⟨3,[(1,.loc 0 0),(2,.d (.bool false)),(3,.row 1),(4,.d (.int .i64 n)),(5,.d (.int .i64 i)),(6,.loc 2 0),(9,.d (.int .i64 (firstOf bs l)))],[(0,ruleB r),(1,.row 4 1 (bs.map cu)),(2,litB l)]⟩)
      (fun _=>True) (fun _=>0) () trivial (aj id ⟨rfl,rfl,rfl,rfl,rfl,rfl,rfl,trivial⟩ ⟨rfl,rfl,rfl,trivial⟩ rfl rfl rfl rfl rfl rfl) ?_
     intro _ _
     repeat' (first|refine z0 ?_|refine z12 ?_|apply ag|(apply ds_stP;exact rfl;exact rfl;(apply hv_get;(omega));exact rfl;exact rfl;(exact hv_set rfl);exact rfl;exact rfl;exact rfl;exact rfl;exact rfl;exact rfl)|apply ae|refine z16 ?_|apply ah|apply ai|apply aq|refine z18 ?_|refine z19 ?_|apply aa|apply ap|apply aw|refine z17 ?_|(refine z23 ?_ ?_ <;> intro hg)|((fail_if_success (apply a8;exact rfl));apply a6;exact rfl;exact rfl;exact rfl;all_goals intro hg))
     all_goals try (exfalso;omega)
     all_goals exact⟨(i + 1,bs),⟨by omega,by rw [hf]⟩,aj id ⟨rfl,rfl,rfl,rfl,rfl,trivial⟩ ⟨rfl,rfl,trivial⟩ rfl rfl rfl rfl rfl rfl,by show r.body.length - (i + 1) < r.body.length - i;omega⟩
  ·repeat' (first|refine z0 ?_|apply ag|apply ae|refine z16 ?_|apply ah|apply ai|apply aq|apply aa|apply ap|apply aw|refine z17 ?_|refine z1 ?_|refine z3 ?_|(refine z23 ?_ ?_ <;> intro hg)|fail)
   all_goals try (exfalso;omega)
   refine⟨(n + 1,bs),⟨by omega,?_⟩,aj id ⟨rfl,rfl,rfl,rfl,trivial⟩ ⟨rfl,rfl,trivial⟩ rfl rfl rfl rfl rfl rfl,by show r.body.length + 1 - (n + 1) < r.body.length + 1 - n;omega⟩
   dsimp only
   rw [bIter_succ,← g2,f2,List.take_of_length_le (by omega)];rfl
 ·repeat' (first|refine z0 ?_|apply ag|apply ae|refine z16 ?_|apply ah|apply ai|apply aq|apply aa|apply ap|refine z17 ?_|(refine z23 ?_ ?_ <;> intro hg)|fail)
  all_goals try (exfalso;omega)
  have hb:b0=boundL r:=by rw [g2,show n=r.body.length + 1 by omega];rfl
  unfold safeB
  rw [← hb]
  have lb0:(b0.map cu).length=b0.length:=List.length_map _
  refine bh (ι:=Nat) (fun x=>⟨2,[(1,.loc 0 0),(2,.d (.bool false)),(3,.row 1),(10,.d (.int .i64 x))],[(0,ruleB r),(1,.row 4 1 (b0.map cu))]⟩)
   (fun x=>x≤b0.length∧b0.all id=(b0.drop x).all id) (fun x=>b0.length - x)
   0 ⟨Nat.zero_le _,rfl⟩ (aj id ⟨rfl,rfl,rfl,rfl,trivial⟩ ⟨rfl,rfl,trivial⟩ rfl rfl rfl rfl rfl rfl) ?_
  rintro j ⟨e1,e2⟩
  dsimp only at e1 e2 ⊢
  by_cases hj:j < b0.length
  ·rw [List.drop_eq_getElem_cons hj,List.all_cons] at e2
   repeat' (first|refine z0 ?_|apply ag|apply ae|refine z16 ?_|apply ah|apply ai|apply aq|apply ak|apply aa|apply ap|apply av|apply aw|apply bq|refine z17 ?_|(refine z23 ?_ ?_ <;> intro hg)|(apply bu;exact rfl;all_goals intro hg))
   all_goals try (exfalso;omega)
   ·refine db rfl ?_
    have hbj:b0[j]=false:=by simpa using hg
    rw [e2,hbj];rfl
   ·have hbj:b0[j]=true:=by simpa using hg
    exact⟨j + 1,⟨by omega,by rw [e2,hbj];rfl⟩,aj id ⟨rfl,rfl,rfl,rfl,trivial⟩ ⟨rfl,rfl,trivial⟩ rfl rfl rfl rfl rfl rfl,by show b0.length - (j + 1) < b0.length - j;omega⟩
  ·rw [List.drop_of_length_le (by omega)] at e2
   repeat' (first|refine z0 ?_|apply ag|apply ae|refine z16 ?_|apply ah|apply ai|apply aq|apply ak|apply aa|apply ap|apply av|apply aw|apply bq|refine z17 ?_|(refine z23 ?_ ?_ <;> intro hg)|(apply bu;exact rfl;all_goals intro hg))
   all_goals try (exfalso;omega)
   all_goals exact db rfl (by rw [e2];rfl)
end Go.Proofs.YtapciiffpnociacGreat
namespace Go.Proofs.YtapciiffpnociacGreat
open Go Go.RowKit
section
variable {Γ : Ctx} {l : List Oper} {κ : Nat}
structure GoO (l:List Oper) (listed:Array Bool) (rem:List (Nat × Oper)):Prop where
 size:listed.size=l.length
 closed:∀ j o,l[j]? = some o→listed.getD j false=true→∀ e∈o.after,Region.binds .any e=true→listed.getD e.on false=true
 left:∀ q,q∈rem↔l[q.1]? = some q.2∧listed.getD q.1 true=false
 sorted:rem.Pairwise (fun p q=>p.1≠q.1∧edgeB l p.1 q.1=false)
theorem GoO.rest {listed:Array Bool} {rem pre post:List (Nat × Oper)} {i:Nat} {o:Oper} (g:GoO l listed rem) (hr:i∈Region.ready .any l.toArray listed) (he:rem=pre++(i,o)::post) (hi:l[i]? = some o):GoO l (listed.setIfInBounds i true) (pre++post) where
 size:=by simp [g.size]
 closed j oj hj hl e he' hb:=by
  have key:∀ x,listed.getD x false=true→(listed.setIfInBounds i true).getD x false=true:=by
   intro x hx
   by_cases hix:i=x
   ·subst hix
    have:i < listed.size:=by rw [g.size];exact ca hi
    simp [this]
   ·rw [getD_set_ne false hix];exact hx
  by_cases hij:i=j
  ·subst hij
   obtain⟨_,o',ho',hall⟩:=mem_ready.1 hr
   have ho2:l[i]? = some o':=by simpa using ho'
   rw [hj] at ho2
   cases ho2
   exact key _ (hall e he' hb)
  ·rw [getD_set_ne false hij] at hl
   exact key _ (g.closed j oj hj hl e he' hb)
 left q:=by
  have hs:=g.sorted
  rw [he] at hs
  have hne:∀ q∈pre++post,q.1≠i:=by
   intro q hq hqi
   rw [List.pairwise_append] at hs
   obtain⟨_,h2,h3⟩:=hs
   rcases List.mem_append.1 hq with h|h
   ·exact (h3 q h (i,o) (List.mem_cons_self ..)).1 hqi
   ·exact ((List.pairwise_cons.1 h2).1 q h).1 hqi.symm
  constructor
  ·intro hq
   have h1:q∈rem:=by rw [he];rcases List.mem_append.1 hq with h|h <;> simp [h]
   obtain⟨a,b⟩:=(g.left q).1 h1
   exact⟨a,by rw [getD_set_ne true (Ne.symm (hne q hq))];exact b⟩
  ·rintro⟨a,b⟩
   have hqi:i≠q.1:=by
    intro h
    have:i < listed.size:=by rw [g.size];exact ca hi
    rw [← h] at b
    simp [this] at b
   rw [getD_set_ne true hqi] at b
   have h1:=(g.left q).2 ⟨a,b⟩
   rw [he] at h1
   simp only [List.mem_append,List.mem_cons] at h1 ⊢
   rcases h1 with h|h|h
   ·exact .inl h
   ·exact absurd (by rw [h]) hqi
   ·exact .inr h
 sorted:=by
  have hs:=g.sorted
  rw [he] at hs
  exact hs.sublist (List.Sublist.append (List.Sublist.refl _) (List.sublist_cons_self _ _))
end
abbrev RE:=List (Option Int)
def vOf (e:RE) (t:Trm):Option Int:=if t.var < 0 then some t.n else e.getD t.var.toNat none
def vA (a:List Int) (t:Trm):Int:=if t.var < 0 then t.n else a.getD t.var.toNat 0
def b5 (e:RE):List Bool:=e.map Option.isSome
def bz (e:RE):List Int:=e.map fun x=>x.getD 0
def extE (e:RE) (a:List Int):Prop:=a.length=e.length∧∀ (v:Nat) (x:Int),e[v]? = some (some x)→a[v]? = some x
def cn:RE→List Trm→List Int→Option RE
 | e,t::ts,n::ns=>match vOf e t with
  | some x=>if x=n then cn e ts ns else none
  | none=>cn (e.set t.var.toNat (some n)) ts ns
 | e,_,_=>some e
theorem cp (e:RE):(b5 e).length=e.length:=List.length_map _
theorem outE_len (e:RE):(bz e).length=e.length:=List.length_map _
theorem isT_hasE (e:RE) (t:Trm):isT (b5 e) t=(vOf e t).isSome:=by
 unfold isT vOf b5
 by_cases h:t.var < 0
 ·simp [h]
 ·simp only [h,decide_false,Bool.false_or,if_false,List.getD,List.getElem?_map]
  cases e[t.var.toNat]? <;> rfl
theorem vOf_out {e:RE} {t:Trm} {x:Int} (h:vOf e t=some x):vA (bz e) t=x:=by
 unfold vOf at h
 unfold vA bz
 by_cases hv:t.var < 0
 ·simp [hv] at h ⊢;exact h
 ·simp only [hv,if_false,List.getD,List.getElem?_map] at h ⊢
  cases he:e[t.var.toNat]? with
  | none=>rw [he] at h;simp at h
  | some y=>rw [he] at h;simp at h;subst h;rfl
theorem vOf_ext {e:RE} {a:List Int} {t:Trm} {x:Int} (h:extE e a) (hx:vOf e t=some x):vA a t=x:=by
 unfold vOf at hx
 unfold vA
 by_cases hv:t.var < 0
 ·simp [hv] at hx ⊢;exact hx
 ·simp only [hv,if_false,List.getD] at hx ⊢
  cases he:e[t.var.toNat]? with
  | none=>rw [he] at hx;simp at hx
  | some y =>
   rw [he] at hx
   simp at hx
   subst hx
   rw [h.2 _ _ he];rfl
theorem vA_same {e:RE} {a:List Int} {t:Trm} (h:extE e a) (hx:(vOf e t).isSome=true):vA a t=vA (bz e) t:=by
 obtain⟨x,hx⟩:=Option.isSome_iff_exists.1 hx
 rw [vOf_ext h hx,vOf_out hx]
theorem set_ext' {e:RE} {a:List Int} {t:Trm} {n:Int} (ho:okT e.length t) (hn:vOf e t=none):extE (e.set t.var.toNat (some n)) a↔extE e a∧vA a t=n:=by
 unfold vOf at hn
 unfold okT at ho
 have hv:¬ t.var < 0:=fun h=>by simp [h] at hn
 simp only [hv,if_false,List.getD] at hn
 have hlt:t.var.toNat < e.length:=by omega
 have he:e[t.var.toNat]? = some none:=by
  rw [List.getElem?_eq_getElem hlt] at hn ⊢
  simpa using hn
 unfold extE vA
 rw [List.length_set]
 simp only [hv,if_false]
 constructor
 ·rintro⟨h1,h2⟩
  have h3:=h2 t.var.toNat n (by rw [List.getElem?_set_self hlt])
  refine⟨⟨h1,fun v x hx=>?_⟩,by rw [List.getD,h3];rfl⟩
  by_cases hq:t.var.toNat=v
  ·subst hq;rw [he] at hx;cases hx
  ·exact h2 v x (by rw [List.getElem?_set_ne hq];exact hx)
 ·rintro⟨⟨h1,h2⟩,h3⟩
  refine⟨h1,fun v x hx=>?_⟩
  by_cases hq:t.var.toNat=v
  ·subst hq
   rw [List.getElem?_set_self hlt] at hx
   simp at hx
   subst hx
   rw [List.getD,List.getElem?_eq_getElem (by omega)] at h3
   rw [List.getElem?_eq_getElem (by omega)]
   simpa using h3
  ·exact h2 v x (by rw [List.getElem?_set_ne hq] at hx;exact hx)
theorem set_has {e:RE} {t:Trm} {n:Int} (hn:vOf e t=none):b5 (e.set t.var.toNat (some n))=setT (b5 e) t:=by
 have hv:¬ t.var < 0:=fun h=>by unfold vOf at hn;simp [h] at hn
 unfold b5 setT
 rw [if_neg hv,List.map_set];rfl
theorem matchE_some:∀ {ts:List Trm} {ns:List Int} {e e':RE},ts.length=ns.length→(∀ t∈ts,okT e.length t)→cn e ts ns=some e' →
  e'.length=e.length∧(∀ a,extE e' a↔extE e a∧ts.map (vA a)=ns)∧b5 e' = ts.foldl setT (b5 e)
 | [],[],e,e',_,_,h=>by
  simp only [cn,Option.some.injEq] at h
  subst h
  exact⟨rfl,fun a=>by simp,rfl⟩
 | t::ts,n::ns,e,e',hl,ho,h=>by
  have hl':ts.length=ns.length:=by simpa using hl
  rw [cn] at h
  cases hv:vOf e t with
  | some x =>
   rw [hv] at h
   simp only at h
   split at h
   ·rename_i hx
    subst hx
    obtain⟨h1,h2,h3⟩:=matchE_some hl' (fun y hy=>ho y (List.mem_cons_of_mem _ hy)) h
    refine⟨h1,fun a=>?_,?_⟩
    ·rw [h2,List.map_cons,List.cons.injEq]
     exact⟨fun⟨g1,g2⟩=>⟨g1,vOf_ext g1 hv,g2⟩,fun⟨g1,_,g2⟩=>⟨g1,g2⟩⟩
    ·rw [h3,List.foldl_cons,setT_same (by rw [isT_hasE,hv];rfl)]
   ·cases h
  | none =>
   rw [hv] at h
   simp only at h
   obtain⟨h1,h2,h3⟩:=matchE_some hl' (fun y hy=>by rw [List.length_set];exact ho y (List.mem_cons_of_mem _ hy)) h
   refine⟨by rw [h1,List.length_set],fun a=>?_,?_⟩
   ·rw [h2,set_ext' (ho t (List.mem_cons_self ..)) hv,List.map_cons,List.cons.injEq,and_assoc]
   ·rw [h3,List.foldl_cons,set_has hv]
 | [],_::_,_,_,hl,_,_=>by simp at hl
 | _::_,[],_,_,hl,_,_=>by simp at hl
theorem matchE_none:∀ {ts:List Trm} {ns:List Int} {e:RE},ts.length=ns.length→(∀ t∈ts,okT e.length t)→cn e ts ns=none→∀ a,extE e a→ts.map (vA a)≠ns
 | [],[],e,_,_,h,_,_=>by simp [cn] at h
 | t::ts,n::ns,e,hl,ho,h,a,ha=>by
  have hl':ts.length=ns.length:=by simpa using hl
  rw [cn] at h
  intro hm
  rw [List.map_cons,List.cons.injEq] at hm
  cases hv:vOf e t with
  | some x =>
   rw [hv] at h
   simp only at h
   split at h
   ·exact matchE_none hl' (fun y hy=>ho y (List.mem_cons_of_mem _ hy)) h a ha hm.2
   ·rename_i hx
    exact hx ((vOf_ext ha hv).symm.trans hm.1)
  | none =>
   rw [hv] at h
   simp only at h
   exact matchE_none hl' (fun y hy=>by rw [List.length_set];exact ho y (List.mem_cons_of_mem _ hy)) h a ((set_ext' (ho t (List.mem_cons_self ..)) hv).2 ⟨ha,hm.1⟩) hm.2
 | [],_::_,_,hl,_,_,_,_=>by simp at hl
 | _::_,[],_,hl,_,_,_,_=>by simp at hl
def testE (op a b:Int):Bool:=if op=1 then decide (a < b) else if op=2 then decide (a≤b) else if op=3 then decide (a=b) else decide (a≠b)
def calcE (op a b:Int):Int:=if op=5 then a + b else if op=6 then a - b else a * b
def calcL (l:Ltl) (a:List Int):Int:=calcE l.op ((l.terms.map (vA a)).getD 0 0) ((l.terms.map (vA a)).getD 1 0)
def holdE (S:List Fct) (l:Ltl) (a:List Int):Bool :=
 if l.kind=1 then hasF S ⟨l.pred,l.terms.map (vA a)⟩
 else if l.kind=2 then !hasF S ⟨l.pred,l.terms.map (vA a)⟩
 else if l.kind=3 then testE l.op ((l.terms.map (vA a)).getD 0 0) ((l.terms.map (vA a)).getD 1 0)
 else numB (calcL l a) && decide (calcL l a=(l.terms.map (vA a)).getD 2 0)
theorem map_same {e:RE} {a:List Int} (h:extE e a) {ts:List Trm} (hr:∀ t∈ts,(vOf e t).isSome=true):ts.map (vA a)=ts.map (vA (bz e)) :=
 List.map_congr_left fun t ht=>vA_same h (hr t ht)
theorem holdE_same {S:List Fct} {l:Ltl} {e:RE} {a:List Int} (h:extE e a) (hr:∀ t∈l.terms,(vOf e t).isSome=true):holdE S l a=holdE S l (bz e):=by
 unfold holdE calcL
 rw [map_same h hr]
structure okL (S:List Fct) (v:Nat) (l:Ltl):Prop where
 kind:1≤l.kind∧l.kind≤4
 terms:∀ t∈l.terms,okT v t
 test2:l.kind=3→l.terms.length=2
 calc3:l.kind=4→l.terms.length=3
 facts:l.kind=1→∀ x∈S,x.pred=l.pred→x.args.length=l.terms.length
def closedB (body:List Ltl) (bs:List Bool):Prop:=∀ l∈body,cd bs l=true→∀ t∈litTs l,isT bs t=true
def Bd (body:List Ltl) (bs:List Bool):Prop:=∀ cs,leB bs cs→closedB body cs→∀ v,v < cs.length→cs.getD v false=true
theorem full_out {e:RE} (h:∀ v,v < (b5 e).length→(b5 e).getD v false=true) (a:List Int):extE e a↔a=bz e:=by
 rw [cp] at h
 have he:∀ v,v < e.length→∃ x,e[v]? = some (some x):=fun v hv=>by
  have:=h v hv
  unfold b5 at this
  rw [List.getD,List.getElem?_map,List.getElem?_eq_getElem hv] at this
  simp at this
  obtain⟨x,hx⟩:=Option.isSome_iff_exists.1 this
  exact⟨x,by rw [List.getElem?_eq_getElem hv,hx]⟩
 constructor
 ·rintro⟨h1,h2⟩
  refine List.ext_getElem? fun v=>?_
  by_cases hv:v < e.length
  ·obtain⟨x,hx⟩:=he v hv
   rw [h2 v x hx]
   unfold bz
   rw [List.getElem?_map,hx];rfl
  ·rw [List.getElem?_eq_none (by omega),List.getElem?_eq_none (by rw [outE_len];omega)]
 ·rintro rfl
  refine⟨outE_len e,fun v x hx=>?_⟩
  unfold bz
  rw [List.getElem?_map,hx];rfl
theorem full_some {e:RE} (h:∀ v,v < (b5 e).length→(b5 e).getD v false=true) {t:Trm} (ho:okT e.length t):(vOf e t).isSome=true:=by
 rw [← isT_hasE]
 unfold isT
 unfold okT at ho
 by_cases hv:t.var < 0
 ·rw [decide_eq_true hv];rfl
 ·rw [h _ (by rw [cp];omega),Bool.or_true]
end Go.Proofs.YtapciiffpnociacGreat
