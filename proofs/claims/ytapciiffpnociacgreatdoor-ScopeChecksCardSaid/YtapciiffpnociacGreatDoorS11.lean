/- Several texts in one: ScoD ScoF GxMap ScrP GxMty GxRng GxItr. Condition: none. -/
import Derived.Test.YtapciiffpnociacGreatDoorS10
import Derived.Test.YtapciiffpnociacGreatDoorS08
import Derived.Maps.Keyed
import Derived.DeepKeys4
namespace Go.Proofs.YtapciiffpnociacGreatDoor
open Go Go.RowKit
attribute [local irreducible] DW DS DL DQ Ev FnOk FnP thenD inBlockD DT
theorem firstL_zero {α:Type} {f:α→Int}:∀ {l:List α},firstL f l=0→∀ x∈l,f x=0
 | [],_,x,hx=>by simp at hx
 | y::l,h,x,hx=>by
  unfold firstL at h
  split at h
  ·rename_i hn;exact absurd h hn
  ·rename_i hn
   rcases List.mem_cons.1 hx with rfl|hx
   ·exact Decidable.not_not.1 hn
   ·exact firstL_zero h x hx
theorem termE_ok {vars:Int} {t:Trm} (h0:0≤vars) (h:termE vars t=0):okT vars.toNat t:=by
 unfold termE at h
 split at h
 ·cases h
 ·rename_i hn
  rw [Bool.not_eq_false] at hn
  have:=inR_spec hn
  unfold okT
  omega
theorem litE_ok {ar:List Int} {vars:Int} {l:Ltl} (h0:0≤vars) (h:litE ar vars l=0):(∀ t∈l.terms,okT vars.toNat t)∧(l.kind=4→l.terms.length=3):=by
 have ht:termsE vars l.terms=0→∀ t∈l.terms,okT vars.toNat t:=fun h t ht=>termE_ok h0 (firstL_zero h t ht)
 unfold litE at h
 split at h
 ·cases h
 split at h
 ·cases h
 split at h
 ·split at h
  ·cases h
  split at h
  ·cases h
  exact⟨ht h,fun hk=>by omega⟩
 ·split at h
  ·cases h
  exact⟨ht h,fun hk=>by omega⟩
theorem any_false (l:List Bool):(l.any fun x=>eqB x false) = !l.all id:=by
 induction l with
 | nil=>rfl
 | cons b l ih=>rw [List.any_cons,List.all_cons,ih];cases b <;> rfl
abbrev prgB (p:Prg):HB:=.blk 26 [.d (.slice 1 (p.arity.map encI)),.d (.slice 1 (p.names.map encT)),.d (.slice 5 (p.rules.map encRul))]
set_option maxHeartbeats 8000000 in
theorem rule_fn (p:Prg) (r:Rul):Fn 23 [elPrg p,elRul r] (fun x=>x = .d (.int .i64 (ruleE p.arity r))):=by
 refine fnp_enter' _ Tryz.func23 rfl rfl (by kernel_rfl) ?_
 intro O w0 E0 β0
 have la:(p.arity.map encI).length=p.arity.length:=List.length_map _
 have lb:(r.terms.map encTrm).length=r.terms.length:=List.length_map _
 have lc:(r.body.map encLtl).length=r.body.length:=List.length_map _
 refine dw_lenA 0 0 rfl rfl (fun hk=>?_)
 refine dw_lenA 1 1 rfl rfl (fun hk2=>?_)
 refine dw_lenA 1 3 rfl rfl (fun hk3=>?_)
 have w1:=swithin_fn r.pred 0 (((p.arity.map encI).length:Int) - 1)
 have w2:=swithin_fn r.vars 0 8
 have w3:=swithin_fn r.fold 0 4
 unfold ruleE
 rw [← la,← lb,← lc]
 by_cases hp:inR r.pred 0 (((p.arity.map encI).length:Int) - 1)=true
 ·have hp':=inR_spec hp
  have hA:=arity_at (p:=p) (n:=r.pred) (by omega) (by omega)
  rw [hp] at w1 ⊢
  rw [if_neg (show ¬ (true=false) by decide),hA]
  by_cases hv:inR r.vars 0 8=true
  ·have hv':=inR_spec hv
   rw [hv] at w2 ⊢
   rw [if_neg (show ¬ (true=false) by decide)]
   have w4:=terms_fn r.terms r.vars hv'.1 hv'.2
   clear hv hp hA
   have w5:=fun l=>lit_fn p l r.vars hv'.1 hv'.2
   generalize termsE r.vars r.terms=te at w4 ⊢
   generalize inR r.fold 0 4=fo at w3 ⊢
   repeat' (first|refine z0 ?_|refine z12 ?_|apply ds_nil|refine z5 ?_|refine z10 ?_|apply dw_seq2|refine z16 ?_|refine z20 ?_|apply dw_block|apply dw_skip|apply dw_ret|refine z18 ?_|refine z19 ?_|apply thenD_n|apply thenD_r|apply inB_n|apply inB_r|refine z21 ?_ (hc:=by apply w1)|refine z21 ?_ (hc:=by apply w2)|refine z21 ?_ (hc:=by apply w3)|refine z21 ?_ (hc:=by apply w4)|refine z1 ?_|(refine z23 ?_ ?_ <;> intro hg)|(apply dw_cond;exact rfl;all_goals intro hg)|((fail_if_success (apply ds_known;exact rfl));apply ds_guardP;exact rfl;exact rfl;exact rfl;all_goals intro hg))
   all_goals try (refine ret_i rfl ?_;(repeat' split) <;> (first|rfl|(exfalso;omega)|(exfalso;simp_all;done)))
   all_goals
    have hfin:∀ e,firstL (litE p.arity r.vars) r.body=e→(if (((r.terms.map encTrm).length:Nat):Int)≠p.arity[r.pred.toNat]'(by omega) then 1 else if te≠0 then te else if fo=false then 7 else if r.fold≠0∧((r.terms.map encTrm).length=0∨(r.body.map encLtl).length=0) then 1 else if 4 < (r.body.map encLtl).length then 2 else if firstL (litE p.arity r.vars) r.body≠0 then firstL (litE p.arity r.vars) r.body else if safeB r=false then 4 else 0)=if e≠0 then e else if safeB r=false then 4 else 0:=by
     rintro e rfl
     (repeat' split) <;> (first|rfl|(exfalso;omega)|(exfalso;simp_all;done))
    generalize (if (((r.terms.map encTrm).length:Nat):Int)≠p.arity[r.pred.toNat]'(by omega) then 1 else if te≠0 then te else if fo=false then 7 else if r.fold≠0∧((r.terms.map encTrm).length=0∨(r.body.map encLtl).length=0) then 1 else if 4 < (r.body.map encLtl).length then 2 else if firstL (litE p.arity r.vars) r.body≠0 then firstL (litE p.arity r.vars) r.body else if safeB r=false then 4 else 0)=res at hfin ⊢
    refine ds_loop (ι:=Nat) (fun i=>⟨2,[(2,.loc 0 0),(3,.loc 1 0),(4,.d (.int .i64 0)),(69,.d (.slice 4 (r.body.map encLtl))),(70,.d (.int .i64 (r.body.map encLtl).length)),(71,.d (.int .i64 i))],[(0,prgB p),(1,ruleB r)]⟩)
     (fun i=>i≤r.body.length∧firstL (litE p.arity r.vars) r.body=firstL (litE p.arity r.vars) (r.body.drop i)) (fun i=>r.body.length - i) 0 ⟨Nat.zero_le _,rfl⟩ (ent_ren id ⟨rfl,rfl,rfl,rfl,rfl,rfl,trivial⟩ ⟨rfl,rfl,trivial⟩ rfl rfl rfl rfl rfl rfl) ?_
    rintro i ⟨g1,g2⟩
    by_cases hi:i < r.body.length
    ·rw [firstL_step hi] at g2
     have w6:=w5 r.body[i]
     generalize litE p.arity r.vars r.body[i]=le at w6 g2
     repeat' (first|refine z0 ?_|apply ds_nil|apply dw_seq2|refine z16 ?_|apply dw_block|apply dw_skip|apply dw_exit|apply dw_ret|apply thenD_n|apply thenD_e|apply thenD_r|apply inB_n|apply inB_r|refine z17 ?_|refine z21 ?_ (hc:=by apply w6)|refine z1 ?_|refine z3 ?_|(refine z23 ?_ ?_ <;> intro hg)|fail)
     all_goals first
      | (exfalso;omega)
      | (refine ret_i rfl ?_;rw [hfin le (by rw [g2,if_pos (by assumption)]),if_pos (by assumption)];done)
      | exact⟨i + 1,⟨by omega,by rw [g2,if_neg (by assumption)]⟩,ent_ren id ⟨rfl,rfl,rfl,rfl,rfl,rfl,trivial⟩ ⟨rfl,rfl,trivial⟩ rfl rfl rfl rfl rfl rfl,by show r.body.length - (i + 1) < r.body.length - i;omega⟩
    ·rw [firstL_end (by omega)] at g2
     have hall:=firstL_zero g2
     have w7:=bound_fn r hv'.1 hv'.2 (fun l hl=>(litE_ok hv'.1 (hall l hl)).1) (fun l hl=>(litE_ok hv'.1 (hall l hl)).2)
     have w8:=containsB_fn false (boundL r)
     rw [any_false] at w8
     rw [hfin 0 g2,if_neg (by decide)]
     unfold safeB
     generalize (boundL r).all id=sb at w8 ⊢
     repeat' (first|refine z0 ?_|apply ds_nil|apply dw_seq2|refine z16 ?_|apply dw_block|apply dw_skip|apply dw_exit|apply dw_ret|apply thenD_n|apply thenD_e|apply thenD_r|refine z17 ?_|refine z21 ?_ (hc:=by apply w7)|refine z21 ?_ (hc:=by apply w8)|refine z1 ?_|refine z3 ?_|(refine z23 ?_ ?_ <;> intro hg)|(apply dw_cond;exact rfl;all_goals intro hg))
     all_goals first
      | (exfalso;omega)
      | (refine ret_i rfl ?_;simp_all;done)
  ·rw [Bool.not_eq_true] at hv
   rw [hv] at w2 ⊢
   repeat' (first|refine z0 ?_|apply ds_nil|refine z5 ?_|refine z10 ?_|apply dw_seq2|refine z16 ?_|refine z20 ?_|apply dw_block|apply dw_ret|refine z18 ?_|refine z19 ?_|apply thenD_n|apply thenD_r|apply inB_r|refine z21 ?_ (hc:=by apply w1)|refine z21 ?_ (hc:=by apply w2)|refine z1 ?_|(refine z23 ?_ ?_ <;> intro hg)|fail)
   all_goals exact ret_i rfl (by simp_all)
 ·rw [Bool.not_eq_true] at hp
  rw [hp] at w1 ⊢
  rw [if_pos rfl]
  repeat' (first|refine z0 ?_|apply ds_nil|apply dw_seq2|refine z16 ?_|apply dw_block|apply dw_ret|refine z18 ?_|apply thenD_n|apply thenD_r|apply inB_r|refine z21 ?_ (hc:=by apply w1)|refine z1 ?_|fail)
  all_goals exact ret_i rfl rfl
set_option maxHeartbeats 8000000 in
theorem check_fn (p:Prg):Fn 9 [elPrg p] (fun x=>x = .d (.int .i64 (progE nameS p))):=by
 refine fnp_enter' _ Tryz.func9 rfl rfl (by kernel_rfl) ?_
 intro O w0 E0 β0
 have la:(p.arity.map encI).length=p.arity.length:=List.length_map _
 have lb:(p.names.map encT).length=p.names.length:=List.length_map _
 have lc:(p.rules.map encRul).length=p.rules.length:=List.length_map _
 refine dw_lenA 0 0 rfl rfl (fun hk=>?_)
 refine dw_lenA 0 2 rfl rfl (fun hk2=>?_)
 unfold progE
 by_cases h1:10 < p.arity.length∨12 < p.rules.length
 ·rw [if_pos h1]
  repeat' (first|refine z0 ?_|refine z12 ?_|apply ds_nil|apply dw_seq2|refine z16 ?_|apply dw_block|apply dw_skip|apply dw_ret|refine z18 ?_|apply thenD_n|apply thenD_r|apply inB_n|apply inB_r|refine z1 ?_|(refine z23 ?_ ?_ <;> intro hg)|((fail_if_success (apply ds_known;exact rfl));apply ds_guardP;exact rfl;exact rfl;exact rfl;all_goals intro hg))
  all_goals first
   | (exfalso;omega)
   | exact ret_i rfl rfl
 ·rw [if_neg h1]
  by_cases h2:p.names.length≠p.arity.length
  ·rw [if_pos h2]
   repeat' (first|refine z0 ?_|refine z12 ?_|apply ds_nil|apply dw_seq2|refine z16 ?_|apply dw_block|apply dw_skip|apply dw_ret|refine z18 ?_|apply thenD_n|apply thenD_r|apply inB_n|apply inB_r|refine z1 ?_|(refine z23 ?_ ?_ <;> intro hg)|((fail_if_success (apply ds_known;exact rfl));apply ds_guardP;exact rfl;exact rfl;exact rfl;all_goals intro hg))
   all_goals first
    | (exfalso;omega)
    | exact ret_i rfl rfl
  ·rw [if_neg h2]
   have w1:=preds_fn p (by omega)
   generalize firstI (nameE nameS p) 0 p.names.length=ne at w1 ⊢
   repeat' (first|refine z0 ?_|refine z12 ?_|apply ds_nil|apply dw_seq2|refine z16 ?_|apply dw_block|apply dw_skip|apply dw_ret|refine z18 ?_|apply thenD_n|apply thenD_r|apply inB_n|apply inB_r|refine z21 ?_ (hc:=by apply w1)|refine z1 ?_|(refine z23 ?_ ?_ <;> intro hg)|((fail_if_success (apply ds_known;exact rfl));apply ds_guardP;exact rfl;exact rfl;exact rfl;all_goals intro hg))
   all_goals try (exfalso;omega)
   ·exact ret_i rfl (by rw [if_pos hg])
   rw [if_neg hg]
   refine ds_loop (ι:=Nat) (fun i=>⟨1,[(1,.loc 0 0),(2,.d (.int .i64 0)),(32,.d (.slice 5 (p.rules.map encRul))),(33,.d (.int .i64 (p.rules.map encRul).length)),(34,.d (.int .i64 i))],[(0,prgB p)]⟩)
    (fun i=>i≤p.rules.length∧firstL (ruleE p.arity) p.rules=firstL (ruleE p.arity) (p.rules.drop i)) (fun i=>p.rules.length - i) 0 ⟨Nat.zero_le _,rfl⟩ (ent_ren id ⟨rfl,rfl,rfl,rfl,rfl,trivial⟩ ⟨rfl,trivial⟩ rfl rfl rfl rfl rfl rfl) ?_
   rintro i ⟨g1,g2⟩
   by_cases hi:i < p.rules.length
   ·rw [firstL_step hi] at g2
    have w6:=rule_fn p p.rules[i]
    generalize ruleE p.arity p.rules[i]=le at w6 g2
    repeat' (first|refine z0 ?_|apply ds_nil|apply dw_seq2|refine z16 ?_|apply dw_block|apply dw_skip|apply dw_exit|apply dw_ret|apply thenD_n|apply thenD_e|apply thenD_r|apply inB_n|apply inB_r|refine z17 ?_|refine z21 ?_ (hc:=by apply w6)|refine z1 ?_|refine z3 ?_|(refine z23 ?_ ?_ <;> intro hg)|fail)
    all_goals first
     | (exfalso;omega)
     | (refine ret_i rfl ?_;rw [g2,if_pos (by assumption)];done)
     | exact⟨i + 1,⟨by omega,by rw [g2,if_neg (by assumption)]⟩,ent_ren id ⟨rfl,rfl,rfl,rfl,rfl,trivial⟩ ⟨rfl,trivial⟩ rfl rfl rfl rfl rfl rfl,by show p.rules.length - (i + 1) < p.rules.length - i;omega⟩
   ·rw [firstL_end (by omega)] at g2
    repeat' (first|refine z0 ?_|apply ds_nil|apply dw_seq2|refine z16 ?_|apply dw_block|apply dw_skip|apply dw_exit|apply dw_ret|apply thenD_n|apply thenD_e|refine z17 ?_|refine z1 ?_|refine z3 ?_|(refine z23 ?_ ?_ <;> intro hg)|fail)
    all_goals first
     | (exfalso;omega)
     | exact ret_i rfl g2.symm
theorem sbetween_fn (n a b:Int):Fn 16 [.d (.int .i64 n),.d (.int .i64 a),.d (.int .i64 b)] (fun r=>r = .d (.bool (inR n a b))):=between_fn n a b
set_option maxHeartbeats 8000000 in
theorem sisNumber_fn (n:Int):Fn 19 [.d (.int .i64 n)] (fun r=>r = .d (.bool (numB n))):=by
 refine fnp_enter' _ Tryz.func19 rfl rfl (by kernel_rfl) ?_
 intro O w0 E0 β0
 unfold numB
 repeat' (first|refine z0 ?_|apply ds_nil|apply dw_seq2|refine z16 ?_|apply dw_ret|apply thenD_n|refine z21 ?_ (hc:=by apply sbetween_fn)|fail)
 exact ret_b rfl rfl
set_option maxHeartbeats 8000000 in
theorem rterms_fn (l:List Trm) (vars:Int) (h0:0≤vars) (h8:vars≤8):Fn 34 [.d (.slice 2 (l.map encTrm)),.d (.int .i64 vars)] (fun r=>r = .d (.int .i64 (termsE vars l))):=by
 refine fnp_enter' _ Tryz.func34 rfl rfl (by kernel_rfl) ?_
 intro O w0 E0 β0
 have la:(l.map encTrm).length=l.length:=List.length_map _
 unfold termsE
 refine dw_len (t:=0) rfl (fun hk=>?_)
 repeat' (first|refine z0 ?_|apply ds_nil|apply dw_seq2|refine z16 ?_|apply dw_block|apply thenD_n)
 refine ds_loop (ι:=Nat) (fun i=>⟨0,[(0,.d (.slice 2 (l.map encTrm))),(1,.d (.int .i64 vars)),(4,.d (.int .i64 0)),(5,.d (.int .i64 i))],[]⟩)
  (fun i=>i≤l.length∧firstL (termE vars) l=firstL (termE vars) (l.drop i)) (fun i=>l.length - i) 0 ⟨Nat.zero_le _,rfl⟩ (ent_ren id ⟨rfl,rfl,rfl,rfl,trivial⟩ trivial rfl rfl rfl rfl rfl rfl) ?_
 rintro i ⟨g1,g2⟩
 by_cases hi:i < l.length
 ·rw [firstL_step hi,show termE vars l[i]=if inR l[i].var (-1) (vars - 1)=false then 5 else if numB l[i].n=false∨(0≤l[i].var∧l[i].n≠0) then 3 else 0 from rfl] at g2
  repeat' (first|refine z0 ?_|refine z12 ?_|apply ds_nil|apply dw_seq2|refine z16 ?_|apply dw_block|apply dw_skip|apply dw_exit|apply dw_ret|refine z18 ?_|refine z19 ?_|apply thenD_n|apply thenD_e|apply thenD_r|apply inB_n|apply inB_r|refine z17 ?_|refine z21 ?_ (hc:=by apply sbetween_fn)|refine z21 ?_ (hc:=by apply sisNumber_fn)|(refine z23 ?_ ?_ <;> intro hg)|(apply dw_cond;exact rfl;all_goals intro hg)|((fail_if_success (apply ds_known;exact rfl));apply ds_guardP;exact rfl;exact rfl;exact rfl;all_goals intro hg)|((fail_if_success (apply ds_known;exact rfl));apply ds_guardB;exact rfl;exact rfl;exact rfl;all_goals intro hg))
  all_goals first
   | exact absurd hg (by omega)
   | exact ret_i rfl (by rw [g2];simp_all <;> omega)
   | exact⟨i + 1,⟨by omega,by rw [g2];simp_all <;> omega⟩,ent_ren id ⟨rfl,rfl,rfl,rfl,trivial⟩ trivial rfl rfl rfl rfl rfl rfl,by show l.length - (i + 1) < l.length - i;omega⟩
 ·rw [firstL_end (by omega)] at g2
  repeat' (first|refine z0 ?_|refine z12 ?_|apply ds_nil|apply dw_seq2|refine z16 ?_|apply dw_block|apply dw_skip|apply dw_exit|apply dw_ret|refine z18 ?_|refine z19 ?_|apply thenD_n|apply thenD_e|apply thenD_r|apply inB_n|apply inB_r|refine z17 ?_|refine z21 ?_ (hc:=by apply sbetween_fn)|refine z21 ?_ (hc:=by apply sisNumber_fn)|(refine z23 ?_ ?_ <;> intro hg)|(apply dw_cond;exact rfl;all_goals intro hg)|((fail_if_success (apply ds_known;exact rfl));apply ds_guardP;exact rfl;exact rfl;exact rfl;all_goals intro hg)|((fail_if_success (apply ds_known;exact rfl));apply ds_guardB;exact rfl;exact rfl;exact rfl;all_goals intro hg))
  all_goals first
   | exact absurd hg (by omega)
   | exact ret_i rfl g2.symm
set_option maxHeartbeats 8000000 in
theorem isWord_fn (s:ByteArray):Fn 33 [.d (.str s)] (fun r=>r = .d (.bool (wordB s))):=by
 refine fnp_enter' _ Tryz.func33 rfl rfl (by kernel_rfl) ?_
 intro O w0 E0 β0
 unfold wordB wordsL
 repeat' (first|refine z0 ?_|refine z12 ?_|apply ds_nil|apply dw_seq2|refine z16 ?_|apply dw_ret|apply thenD_n|((fail_if_success (apply ds_known;exact rfl));apply ds_guardP;exact rfl;exact rfl;exact rfl;all_goals intro hg))
 all_goals exact ret_b rfl (by simp_all [eqS])
def nameR (s:ByteArray):Bool:=isTok 1 s && !wordB s
set_option maxHeartbeats 8000000 in
theorem isName_fn (s:ByteArray):Fn 17 [.d (.str s)] (fun r=>r = .d (.bool (nameR s))):=by
 refine fnp_enter' _ Tryz.func17 rfl rfl (by kernel_rfl) ?_
 intro O w0 E0 β0
 unfold nameR
 repeat' (first|refine z0 ?_|refine z12 ?_|apply ds_nil|apply dw_seq2|refine z16 ?_|apply dw_ret|apply thenD_n|refine z21 ?_ (hc:=by apply isToken_fn)|refine z21 ?_ (hc:=by apply isWord_fn)|((fail_if_success (apply ds_known;exact rfl));apply ds_guardB;exact rfl;exact rfl;exact rfl;all_goals intro hg))
 all_goals exact ret_b rfl (by simp_all)
def firstOf (bs:List Bool) (l:Ltl):Nat:=if l.kind=4 then (if firesB bs l then 2 else 3) else 0
theorem bLit_first {bs:List Bool} {l:Ltl} (h3:l.kind=4→l.terms.length=3):bLit bs l=if l.kind=1∨l.kind=4 then (l.terms.drop (firstOf bs l)).foldl setT bs else bs:=by
 unfold bLit firstOf litTs
 by_cases k1:l.kind=1
 ·have hf:firesB bs l=true:=by unfold firesB;rw [decide_eq_true k1];rfl
  simp [hf,k1]
 ·by_cases k4:l.kind=4
  ·cases hf:firesB bs l with
   | true=>simp [k4]
   | false =>
    have hd:l.terms.drop 3=[]:=List.drop_of_length_le (by have:=h3 k4;omega)
    simp [k4,hd]
  ·have hf:firesB bs l=false:=by unfold firesB;rw [decide_eq_false k1,decide_eq_false k4];rfl
   simp [hf,k1,k4]
abbrev litB (l:Ltl):HB:=.blk 65 [.d (.int .i64 l.kind),.d (.int .i64 l.op),.d (.int .i64 l.pred),.d (.slice 2 (l.terms.map encTrm))]
set_option maxHeartbeats 8000000 in
theorem safe_fn (r:Rul) (hb4:r.body.length≤4) (h0:0≤r.vars) (h8:r.vars≤8) (hok:∀ l∈r.body,∀ t∈l.terms,okT r.vars.toNat t) (h3:∀ l∈r.body,l.kind=4→l.terms.length=3) :
  Fn 35 [elRul r] (fun x=>x = .d (.bool (safeB r))):=by
 refine fnp_enter' _ Tryz.func35 rfl rfl (by kernel_rfl) ?_
 intro O w0 E0 β0
 have lb:(r.body.map encLtl).length=r.body.length:=List.length_map _
 refine dw_lenA 0 3 rfl rfl (fun hk=>?_)
 repeat' (first|refine z0 ?_|apply ds_nil|apply dw_seq2|refine z16 ?_|apply thenD_n|refine z1 ?_|fail)
 refine ds_mk ((List.replicate r.vars.toNat false).map encBl) rfl rfl (Int.toNat_of_nonneg h0).symm rfl rfl rfl rfl rfl rfl (by show 1 * _≤_;omega) (by unfold maxLen;omega) (by rw [List.map_replicate];rfl) rfl rfl ?_
 repeat' (first|refine z0 ?_|apply ds_nil|apply dw_seq2|refine z16 ?_|apply dw_block|apply thenD_n)
 refine ds_loop (ι:=Nat × List Bool) (fun x=>⟨2,[(1,.loc 0 0),(2,.d (.bool false)),(3,.row 1),(4,.d (.int .i64 x.1))],[(0,ruleB r),(1,.row 4 1 (x.2.map encBl))]⟩)
  (fun x=>x.1≤r.body.length + 1∧x.2=bIter r.body x.1 (List.replicate r.vars.toNat false)) (fun x=>r.body.length + 1 - x.1)
  (0,List.replicate r.vars.toNat false) ⟨Nat.zero_le _,rfl⟩ (ent_ren id ⟨rfl,rfl,rfl,rfl,trivial⟩ ⟨rfl,rfl,trivial⟩ rfl rfl rfl rfl rfl rfl) ?_
 rintro⟨n,b0⟩ ⟨g1,g2⟩
 dsimp only at g1 g2 ⊢
 have hlen:b0.length=r.vars.toNat:=by rw [g2,bIter_len,List.length_replicate]
 by_cases hn:n < r.body.length + 1
 ·repeat' (first|refine z0 ?_|apply ds_nil|apply dw_seq2|refine z16 ?_|apply dw_block|apply dw_skip|apply dw_exit|apply thenD_n|apply thenD_e|refine z17 ?_|(refine z23 ?_ ?_ <;> intro hg)|fail)
  all_goals try (exfalso;omega)
  refine ds_loop (ι:=Nat × List Bool) (fun x=>⟨2,[(1,.loc 0 0),(2,.d (.bool false)),(3,.row 1),(4,.d (.int .i64 n)),(5,.d (.int .i64 x.1))],[(0,ruleB r),(1,.row 4 1 (x.2.map encBl))]⟩)
   (fun x=>x.1≤r.body.length∧x.2=(r.body.take x.1).foldl bLit b0) (fun x=>r.body.length - x.1)
   (0,b0) ⟨Nat.zero_le _,rfl⟩ (ent_ren id ⟨rfl,rfl,rfl,rfl,rfl,trivial⟩ ⟨rfl,rfl,trivial⟩ rfl rfl rfl rfl rfl rfl) ?_
  rintro⟨i,bs⟩ ⟨f1,f2⟩
  dsimp only at f1 f2 ⊢
  have hbl:bs.length=r.vars.toNat:=by rw [f2,bLits_len,hlen]
  by_cases hi:i < r.body.length
  ·have hlok:=hok r.body[i] (List.getElem_mem hi)
   have h3':=h3 r.body[i] (List.getElem_mem hi)
   have hf:bLit bs r.body[i]=(r.body.take (i + 1)).foldl bLit b0:=by rw [foldl_take bLit b0 hi,← f2]
   rw [bLit_first h3'] at hf
   repeat' ((fail_if_success (apply dw_stopR 10));(first|refine z0 ?_|apply ds_nil|apply dw_seq2|refine z16 ?_|apply dw_block|apply dw_skip|apply dw_exit|apply thenD_n|apply thenD_e|apply inB_n|refine z17 ?_|refine z1 ?_|refine z3 ?_|(refine z23 ?_ ?_ <;> intro hg)|fail))
   all_goals try (exfalso;omega)
   generalize r.body[i]=l at hlok h3' hf ⊢
   have ll:(l.terms.map encTrm).length=l.terms.length:=List.length_map _
   have lbs:(bs.map encBl).length=bs.length:=List.length_map _
   refine dw_cut (ι:=Unit) (fun _=>⟨3,[(1,.loc 0 0),(2,.d (.bool false)),(3,.row 1),(4,.d (.int .i64 n)),(5,.d (.int .i64 i)),(6,.loc 2 0),(7,.d (.int .i64 (firstOf bs l)))],[(0,ruleB r),(1,.row 4 1 (bs.map encBl)),(2,litB l)]⟩) (fun _=>True) ?_ ?_
   ·by_cases k4:l.kind=4
    ·have h3l:=h3' k4
     have hf4:=fires4 (bs:=bs) (by omega) k4 h3l
     have hlok':∀ t∈l.terms,okT bs.length t:=by rw [hbl];exact hlok
     repeat' (first|refine z0 ?_|apply ds_nil|apply dw_seq2|refine z16 ?_|apply dw_block|apply dw_skip|apply thenD_n|(refine z23 ?_ ?_ <;> intro hg)|fail)
     all_goals try (exfalso;omega)
     refine ds_loop (ι:=Nat × Int) (fun x=>⟨3,[(1,.loc 0 0),(2,.d (.bool false)),(3,.row 1),(4,.d (.int .i64 n)),(5,.d (.int .i64 i)),(6,.loc 2 0),(7,.d (.int .i64 x.2)),(8,.d (.int .i64 x.1))],[(0,ruleB r),(1,.row 4 1 (bs.map encBl)),(2,litB l)]⟩)
      (fun x=>x.1≤2∧x.2=if (l.terms.take x.1).all (isT bs) then 2 else 3) (fun x=>2 - x.1)
      (0,2) ⟨Nat.zero_le _,rfl⟩ (ent_ren id ⟨rfl,rfl,rfl,rfl,rfl,rfl,rfl,rfl,trivial⟩ ⟨rfl,rfl,rfl,trivial⟩ rfl rfl rfl rfl rfl rfl) ?_
     rintro⟨j,f⟩ ⟨e1,e2⟩
     dsimp only at e1 e2 ⊢
     by_cases hj:j < 2
     ·have hq:=hlok' (l.terms[j]'(by omega)) (List.getElem_mem _)
      have e3:(l.terms.take (j + 1)).all (isT bs)=((l.terms.take j).all (isT bs) && isT bs (l.terms[j]'(by omega))):=by
       rw [List.take_succ_eq_append_getElem (by omega),List.all_append]
       simp
      by_cases hneg:(l.terms[j]'(by omega)).var < 0
      ·rw [isT_pos hneg,Bool.and_true] at e3
       repeat' (first|refine z0 ?_|refine z12 ?_|apply ds_nil|apply dw_seq2|refine z16 ?_|apply dw_block|apply dw_skip|apply dw_exit|refine z19 ?_|apply thenD_n|apply thenD_e|apply inB_n|refine z17 ?_|(refine z23 ?_ ?_ <;> intro hg)|(apply dw_cond;exact rfl;all_goals intro hg)|((fail_if_success (apply ds_known;exact rfl));apply ds_guardP;exact rfl;exact rfl;exact rfl;all_goals intro hg))
       all_goals try (exfalso;omega)
       all_goals exact⟨(j + 1,f),⟨by omega,by dsimp only;rw [e3,e2]⟩,ent_ren id ⟨rfl,rfl,rfl,rfl,rfl,rfl,rfl,rfl,trivial⟩ ⟨rfl,rfl,rfl,trivial⟩ rfl rfl rfl rfl rfl rfl,by show 2 - (j + 1) < 2 - j;omega⟩
      ·rw [isT_neg hneg hq] at e3
       unfold okT at hq
       repeat' (first|refine z0 ?_|refine z12 ?_|apply ds_nil|apply dw_seq2|refine z16 ?_|apply dw_block|apply dw_skip|apply dw_exit|refine z19 ?_|apply thenD_n|apply thenD_e|apply inB_n|refine z17 ?_|(refine z23 ?_ ?_ <;> intro hg)|(apply dw_cond;exact rfl;all_goals intro hg)|((fail_if_success (apply ds_known;exact rfl));apply ds_guardP;exact rfl;exact rfl;exact rfl;all_goals intro hg))
       all_goals try (exfalso;omega)
       ·have hb:bs[(l.terms[j]'(by omega)).var.toNat]'(by omega)=false:=by simpa using hg
        exact⟨(j + 1,3),⟨by omega,by dsimp only;rw [e3,hb,Bool.and_false];rfl⟩,ent_ren id ⟨rfl,rfl,rfl,rfl,rfl,rfl,rfl,rfl,trivial⟩ ⟨rfl,rfl,rfl,trivial⟩ rfl rfl rfl rfl rfl rfl,by show 2 - (j + 1) < 2 - j;omega⟩
       ·have hb:bs[(l.terms[j]'(by omega)).var.toNat]'(by omega)=true:=by simpa using hg
        exact⟨(j + 1,f),⟨by omega,by dsimp only;rw [e3,hb,Bool.and_true,e2]⟩,ent_ren id ⟨rfl,rfl,rfl,rfl,rfl,rfl,rfl,rfl,trivial⟩ ⟨rfl,rfl,rfl,trivial⟩ rfl rfl rfl rfl rfl rfl,by show 2 - (j + 1) < 2 - j;omega⟩
     ·repeat' (first|refine z0 ?_|refine z12 ?_|apply ds_nil|apply dw_seq2|refine z16 ?_|apply dw_block|apply dw_skip|apply dw_exit|refine z19 ?_|apply thenD_n|apply thenD_e|apply inB_n|refine z17 ?_|(refine z23 ?_ ?_ <;> intro hg)|(apply dw_cond;exact rfl;all_goals intro hg)|((fail_if_success (apply ds_known;exact rfl));apply ds_guardP;exact rfl;exact rfl;exact rfl;all_goals intro hg))
      all_goals try (exfalso;omega)
      refine⟨(),trivial,?_⟩
      have hff:f=(firstOf bs l:Int):=by
       unfold firstOf
       rw [if_pos k4,e2,show j=2 by omega]
       have:firesB bs l=(l.terms.take 2).all (isT bs):=by unfold firesB;rw [decide_eq_false (by omega),decide_eq_true k4];simp
       rw [this]
       split <;> rfl
      rw [hff]
      exact ent_ren id ⟨rfl,rfl,rfl,rfl,rfl,rfl,rfl,trivial⟩ ⟨rfl,rfl,rfl,trivial⟩ rfl rfl rfl rfl rfl rfl
    ·repeat' (first|refine z0 ?_|apply ds_nil|apply dw_seq2|refine z16 ?_|apply dw_block|apply dw_skip|apply thenD_n|(refine z23 ?_ ?_ <;> intro hg)|fail)
     all_goals try (exfalso;omega)
     refine⟨(),trivial,?_⟩
     unfold firstOf
     rw [if_neg k4]
     exact ent_ren id ⟨rfl,rfl,rfl,rfl,rfl,rfl,rfl,trivial⟩ ⟨rfl,rfl,rfl,trivial⟩ rfl rfl rfl rfl rfl rfl
   ·intro _ _
    have hfl:firstOf bs l≤3:=by unfold firstOf;split <;> (try split) <;> omega
    refine dw_lenC 2 3 rfl rfl (fun hkl=>?_)
    repeat' (first|refine z0 ?_|apply ds_nil|apply dw_seq2|refine z16 ?_|apply dw_block|apply thenD_n)
    by_cases hk14:l.kind=1∨l.kind=4
    ·rw [if_pos hk14] at hf
     have hlok':∀ t∈l.terms,okT bs.length t:=by rw [hbl];exact hlok
     refine ds_loop (ι:=Nat × List Bool) (fun x=>⟨3,[(1,.loc 0 0),(2,.d (.bool false)),(3,.row 1),(4,.d (.int .i64 n)),(5,.d (.int .i64 i)),(6,.loc 2 0),(9,.d (.int .i64 x.1))],[(0,ruleB r),(1,.row 4 1 (x.2.map encBl)),(2,litB l)]⟩)
      (fun x=>x.2.length=bs.length∧(l.terms.drop x.1).foldl setT x.2=(l.terms.drop (firstOf bs l)).foldl setT bs∧x.1≤l.terms.length + 3) (fun x=>l.terms.length + 3 - x.1)
      (firstOf bs l,bs) ⟨rfl,rfl,by dsimp only;omega⟩ (ent_ren id ⟨rfl,rfl,rfl,rfl,rfl,rfl,rfl,trivial⟩ ⟨rfl,rfl,rfl,trivial⟩ rfl rfl rfl rfl rfl rfl) ?_
     rintro⟨j,bj⟩ ⟨e1,e2,e3⟩
     dsimp only at e1 e2 e3 ⊢
     have lbj:(bj.map encBl).length=bj.length:=List.length_map _
     by_cases hj:j < l.terms.length
     ·have hq:=hlok' l.terms[j] (List.getElem_mem hj)
      rw [← e1] at hq
      rw [List.drop_eq_getElem_cons hj,List.foldl_cons] at e2
      by_cases hneg:l.terms[j].var < 0
      ·have hst:setT bj l.terms[j]=bj:=by unfold setT;rw [if_pos hneg]
       rw [hst] at e2
       repeat' (first|refine z0 ?_|refine z12 ?_|apply ds_nil|(apply ds_stP;exact rfl;exact rfl;(apply hv_get;(omega));exact rfl;exact rfl;(exact hv_set rfl);exact rfl;exact rfl;exact rfl;exact rfl;exact rfl;exact rfl)|apply dw_seq2|refine z16 ?_|apply dw_block|apply dw_skip|apply dw_exit|refine z18 ?_|refine z19 ?_|apply thenD_n|apply thenD_e|apply inB_n|refine z17 ?_|(refine z23 ?_ ?_ <;> intro hg)|((fail_if_success (apply ds_known;exact rfl));apply ds_guardP;exact rfl;exact rfl;exact rfl;all_goals intro hg))
       all_goals try (exfalso;omega)
       all_goals exact⟨(j + 1,bj),⟨e1,e2,by dsimp only;omega⟩,ent_ren id ⟨rfl,rfl,rfl,rfl,rfl,rfl,rfl,trivial⟩ ⟨rfl,rfl,rfl,trivial⟩ rfl rfl rfl rfl rfl rfl,by show l.terms.length + 3 - (j + 1) < l.terms.length + 3 - j;omega⟩
      ·have hst:setT bj l.terms[j]=bj.set l.terms[j].var.toNat true:=by unfold setT;rw [if_neg hneg]
       rw [hst] at e2
       unfold okT at hq
       repeat' (first|refine z0 ?_|refine z12 ?_|apply ds_nil|(apply ds_stP;exact rfl;exact rfl;(apply hv_get;(omega));exact rfl;exact rfl;(exact hv_set rfl);exact rfl;exact rfl;exact rfl;exact rfl;exact rfl;exact rfl)|apply dw_seq2|refine z16 ?_|apply dw_block|apply dw_skip|apply dw_exit|refine z18 ?_|refine z19 ?_|apply thenD_n|apply thenD_e|apply inB_n|refine z17 ?_|(refine z23 ?_ ?_ <;> intro hg)|((fail_if_success (apply ds_known;exact rfl));apply ds_guardP;exact rfl;exact rfl;exact rfl;all_goals intro hg))
       all_goals try (exfalso;omega)
       all_goals exact⟨(j + 1,bj.set l.terms[j].var.toNat true),⟨by dsimp only;rw [List.length_set];exact e1,e2,by dsimp only;omega⟩,ent_ren id ⟨rfl,rfl,rfl,rfl,rfl,rfl,rfl,trivial⟩ ⟨rfl,rfl,rfl,trivial⟩ rfl rfl rfl rfl rfl rfl,by show l.terms.length + 3 - (j + 1) < l.terms.length + 3 - j;omega⟩
     ·rw [List.drop_of_length_le (by omega)] at e2
      have e2:bj=(l.terms.drop (firstOf bs l)).foldl setT bs:=e2
      repeat' (first|refine z0 ?_|refine z12 ?_|apply ds_nil|(apply ds_stP;exact rfl;exact rfl;(apply hv_get;(omega));exact rfl;exact rfl;(exact hv_set rfl);exact rfl;exact rfl;exact rfl;exact rfl;exact rfl;exact rfl)|apply dw_seq2|refine z16 ?_|apply dw_block|apply dw_skip|apply dw_exit|refine z18 ?_|refine z19 ?_|apply thenD_n|apply thenD_e|apply inB_n|refine z17 ?_|(refine z23 ?_ ?_ <;> intro hg)|((fail_if_success (apply ds_known;exact rfl));apply ds_guardP;exact rfl;exact rfl;exact rfl;all_goals intro hg))
      all_goals try (exfalso;omega)
      all_goals exact⟨(i + 1,bj),⟨by omega,by dsimp only;rw [e2,hf]⟩,ent_ren id ⟨rfl,rfl,rfl,rfl,rfl,trivial⟩ ⟨rfl,rfl,trivial⟩ rfl rfl rfl rfl rfl rfl,by show r.body.length - (i + 1) < r.body.length - i;omega⟩
    ·rw [if_neg hk14] at hf
     refine ds_loop (ι:=Unit) (fun _=>⟨3,[(1,.loc 0 0),(2,.d (.bool false)),(3,.row 1),(4,.d (.int .i64 n)),(5,.d (.int .i64 i)),(6,.loc 2 0),(9,.d (.int .i64 (firstOf bs l)))],[(0,ruleB r),(1,.row 4 1 (bs.map encBl)),(2,litB l)]⟩)
      (fun _=>True) (fun _=>0) () trivial (ent_ren id ⟨rfl,rfl,rfl,rfl,rfl,rfl,rfl,trivial⟩ ⟨rfl,rfl,rfl,trivial⟩ rfl rfl rfl rfl rfl rfl) ?_
     intro _ _
     repeat' (first|refine z0 ?_|refine z12 ?_|apply ds_nil|(apply ds_stP;exact rfl;exact rfl;(apply hv_get;(omega));exact rfl;exact rfl;(exact hv_set rfl);exact rfl;exact rfl;exact rfl;exact rfl;exact rfl;exact rfl)|apply dw_seq2|refine z16 ?_|apply dw_block|apply dw_skip|apply dw_exit|refine z18 ?_|refine z19 ?_|apply thenD_n|apply thenD_e|apply inB_n|refine z17 ?_|(refine z23 ?_ ?_ <;> intro hg)|((fail_if_success (apply ds_known;exact rfl));apply ds_guardP;exact rfl;exact rfl;exact rfl;all_goals intro hg))
     all_goals try (exfalso;omega)
     all_goals exact⟨(i + 1,bs),⟨by omega,by rw [hf]⟩,ent_ren id ⟨rfl,rfl,rfl,rfl,rfl,trivial⟩ ⟨rfl,rfl,trivial⟩ rfl rfl rfl rfl rfl rfl,by show r.body.length - (i + 1) < r.body.length - i;omega⟩
  ·repeat' (first|refine z0 ?_|apply ds_nil|apply dw_seq2|refine z16 ?_|apply dw_block|apply dw_skip|apply dw_exit|apply thenD_n|apply thenD_e|apply inB_n|refine z17 ?_|refine z1 ?_|refine z3 ?_|(refine z23 ?_ ?_ <;> intro hg)|fail)
   all_goals try (exfalso;omega)
   refine⟨(n + 1,bs),⟨by omega,?_⟩,ent_ren id ⟨rfl,rfl,rfl,rfl,trivial⟩ ⟨rfl,rfl,trivial⟩ rfl rfl rfl rfl rfl rfl,by show r.body.length + 1 - (n + 1) < r.body.length + 1 - n;omega⟩
   dsimp only
   rw [bIter_succ,← g2,f2,List.take_of_length_le (by omega)];rfl
 ·repeat' (first|refine z0 ?_|apply ds_nil|apply dw_seq2|refine z16 ?_|apply dw_block|apply dw_skip|apply dw_exit|apply thenD_n|apply thenD_e|refine z17 ?_|(refine z23 ?_ ?_ <;> intro hg)|fail)
  all_goals try (exfalso;omega)
  have hb:b0=boundL r:=by rw [g2,show n=r.body.length + 1 by omega];rfl
  unfold safeB
  rw [← hb]
  have lb0:(b0.map encBl).length=b0.length:=List.length_map _
  refine ds_loop (ι:=Nat) (fun x=>⟨2,[(1,.loc 0 0),(2,.d (.bool false)),(3,.row 1),(10,.d (.int .i64 x))],[(0,ruleB r),(1,.row 4 1 (b0.map encBl))]⟩)
   (fun x=>x≤b0.length∧b0.all id=(b0.drop x).all id) (fun x=>b0.length - x)
   0 ⟨Nat.zero_le _,rfl⟩ (ent_ren id ⟨rfl,rfl,rfl,rfl,trivial⟩ ⟨rfl,rfl,trivial⟩ rfl rfl rfl rfl rfl rfl) ?_
  rintro j ⟨e1,e2⟩
  dsimp only at e1 e2 ⊢
  by_cases hj:j < b0.length
  ·rw [List.drop_eq_getElem_cons hj,List.all_cons] at e2
   repeat' (first|refine z0 ?_|apply ds_nil|apply dw_seq2|refine z16 ?_|apply dw_block|apply dw_skip|apply dw_exit|apply dw_ret|apply thenD_n|apply thenD_e|apply thenD_r|apply inB_n|apply inB_r|refine z17 ?_|(refine z23 ?_ ?_ <;> intro hg)|(apply dw_cond;exact rfl;all_goals intro hg))
   all_goals try (exfalso;omega)
   ·refine ret_b rfl ?_
    have hbj:b0[j]=false:=by simpa using hg
    rw [e2,hbj];rfl
   ·have hbj:b0[j]=true:=by simpa using hg
    exact⟨j + 1,⟨by omega,by rw [e2,hbj];rfl⟩,ent_ren id ⟨rfl,rfl,rfl,rfl,trivial⟩ ⟨rfl,rfl,trivial⟩ rfl rfl rfl rfl rfl rfl,by show b0.length - (j + 1) < b0.length - j;omega⟩
  ·rw [List.drop_of_length_le (by omega)] at e2
   repeat' (first|refine z0 ?_|apply ds_nil|apply dw_seq2|refine z16 ?_|apply dw_block|apply dw_skip|apply dw_exit|apply dw_ret|apply thenD_n|apply thenD_e|apply thenD_r|apply inB_n|apply inB_r|refine z17 ?_|(refine z23 ?_ ?_ <;> intro hg)|(apply dw_cond;exact rfl;all_goals intro hg))
   all_goals try (exfalso;omega)
   all_goals exact ret_b rfl (by rw [e2];rfl)
end Go.Proofs.YtapciiffpnociacGreatDoor
namespace Go.Proofs.YtapciiffpnociacGreatDoor
open Go Go.RowKit
open Go.Maps (Keyed)
def MK.eqb:MK→MK→Bool
 | .str a,.str b=>decide (a.data=b.data)
 | .pair a b,.pair c d=>decide (a=c) && decide (b=d)
 | _,_=>false
theorem MK.eqb_iff:∀ {a b:MK},a.eqb b=true↔a=b
 | .str a,.str b=>by
  simp only [MK.eqb,decide_eq_true_iff,MK.str.injEq]
  exact⟨fun h=>by cases a;cases b;exact congrArg _ h,fun h=>by rw [h]⟩
 | .pair a b,.pair c d=>by simp only [MK.eqb,Bool.and_eq_true,decide_eq_true_iff,MK.pair.injEq]
 | .str _,.pair _ _=>by simp [MK.eqb]
 | .pair _ _,.str _=>by simp [MK.eqb]
theorem MK.eqb_self (a:MK):a.eqb a=true:=MK.eqb_iff.2 rfl
theorem MK.val_inj:∀ {a b:MK},a.val=b.val→a=b
 | .str a,.str b,h=>by cases h;rfl
 | .pair a b,.pair c d,h=>by
  simp only [MK.val,Value.agg.injEq,Array.mk.injEq,List.cons.injEq,Value.int.injEq,and_true,true_and] at h
  rw [h.1,h.2]
 | .str _,.pair _ _,h=>by cases h
 | .pair _ _,.str _,h=>by cases h
def mapGet?:List (MK × Int)→MK→Option Int
 | [],_=>none
 | (k,v)::l,x=>if k.eqb x then some v else mapGet? l x
def mapSet:List (MK × Int)→MK→Int→List (MK × Int)
 | [],x,n=>[(x,n)]
 | (k,v)::l,x,n=>if k.eqb x then (k,n)::l else (k,v)::mapSet l x n
theorem mapGet_none {x:MK}:∀ {l:List (MK × Int)},(∀ p∈l,p.1≠x)→mapGet? l x=none
 | [],_=>rfl
 | (k,v)::l,h=>by
  unfold mapGet?
  rw [if_neg (fun hc=>h (k,v) (List.mem_cons_self ..) (MK.eqb_iff.1 hc))]
  exact mapGet_none fun p hp=>h p (List.mem_cons_of_mem _ hp)
theorem mapGet_some {x:MK} {n:Int}:∀ {l:List (MK × Int)},l.Pairwise (fun p q=>p.1≠q.1)→(x,n)∈l→mapGet? l x=some n
 | [],_,h=>by simp at h
 | (k,v)::l,hp,h=>by
  obtain⟨h1,h2⟩:=List.pairwise_cons.1 hp
  unfold mapGet?
  rcases List.mem_cons.1 h with h|h
  ·cases h;rw [if_pos (MK.eqb_self _)]
  ·rw [if_neg fun hc=>h1 _ h (MK.eqb_iff.1 hc)]
   exact mapGet_some h2 h
theorem mapSet_new {x:MK} {n:Int}:∀ {l:List (MK × Int)},(∀ p∈l,p.1≠x)→mapSet l x n=l++[(x,n)]
 | [],_=>rfl
 | (k,v)::l,h=>by
  unfold mapSet
  rw [if_neg (fun hc=>h (k,v) (List.mem_cons_self ..) (MK.eqb_iff.1 hc)),mapSet_new fun p hp=>h p (List.mem_cons_of_mem _ hp)]
  rfl
theorem mapSet_old {x:MK} {n:Int}:∀ {l:List (MK × Int)} {j:Nat} {v:Int},l.Pairwise (fun p q=>p.1≠q.1)→l[j]? = some (x,v)→mapSet l x n=l.set j (x,n)
 | [],_,_,_,h=>by simp at h
 | (k,u)::l,0,v,hp,h=>by
  simp only [List.getElem?_cons_zero,Option.some.injEq,Prod.mk.injEq] at h
  unfold mapSet
  rw [if_pos (by rw [h.1];exact MK.eqb_self _),h.1]
  rfl
 | (k,u)::l,j + 1,v,hp,h=>by
  obtain⟨h1,h2⟩:=List.pairwise_cons.1 hp
  rw [List.getElem?_cons_succ] at h
  unfold mapSet
  rw [if_neg fun hc=>h1 _ (List.mem_of_getElem? h) (MK.eqb_iff.1 hc),mapSet_old h2 h]
  rfl
theorem mapSet_keys (x:MK) (n:Int):∀ l,∀ p∈mapSet l x n,p=(x,n)∨p∈l
 | [],p,h=>by simp only [mapSet,List.mem_singleton] at h;exact .inl h
 | (k,v)::l,p,h=>by
  unfold mapSet at h
  split at h
  ·rename_i hk
   rw [MK.eqb_iff.1 hk] at h
   rcases List.mem_cons.1 h with h|h
   ·exact .inl h
   ·exact .inr (List.mem_cons_of_mem _ h)
  ·rcases List.mem_cons.1 h with h|h
   ·exact .inr (by rw [h];exact List.mem_cons_self ..)
   ·exact (mapSet_keys x n l p h).imp id fun h=>List.mem_cons_of_mem _ h
theorem mapSet_pairs (x:MK) (n:Int):∀ l:List (MK × Int),l.Pairwise (fun p q=>p.1≠q.1)→(mapSet l x n).Pairwise (fun p q=>p.1≠q.1)
 | [],_=>by simp [mapSet]
 | (k,v)::l,h=>by
  obtain⟨h1,h2⟩:=List.pairwise_cons.1 h
  unfold mapSet
  split
  ·exact List.pairwise_cons.2 ⟨h1,h2⟩
  ·rename_i hk
   refine List.pairwise_cons.2 ⟨fun p hp=>?_,mapSet_pairs x n l h2⟩
   rcases mapSet_keys x n l p hp with h|h
   ·rw [h];exact fun hc=>hk (MK.eqb_iff.2 hc)
   ·exact h1 p h
structure MapT (P:Program) (t:TypeId) (kd:Bool):Prop where
 ty:∃ kt et,P.underlying t=some (.map kt et)∧Keyed P kt∧(∀ key:MK,key.ok kd→∃ l,keyOf P kt key.val=some l)∧∀ w,(zeroValue et).run P w = .ok (.int .i64 0) w
def keyC:SV→Option MK
 | .d (.str s)=>some (.str s)
 | .agg [.d (.int .i64 a),.d (.int .i64 b)]=>some (.pair a b)
 | _=>none
def MK.kd:MK→Bool
 | .str _=>true
 | .pair _ _=>false
theorem keyC_rel {X e w} {s:SV} {v:Value} {key:MK} (h:keyC s=some key) (hr:Rel X e w s v):v=key.val∧key.ok key.kd:=by
 unfold keyC at h
 split at h
 ·cases h
  have hr:RepC _ _ _ _:=hr
  cases hr
  exact⟨rfl,rfl,by assumption⟩
 ·cases h
  obtain⟨vs,rfl,h2⟩:=hr
  match vs,h2 with
  | [u1,u2],⟨g1,g2,_⟩ =>
   have g1:RepC _ _ _ _:=g1
   have g2:RepC _ _ _ _:=g2
   cases g1
   cases g2
   exact⟨rfl,rfl,by assumption,by assumption⟩
 ·cases h
section
variable {Γ : Ctx} {k : Nat → Prop} {L : Sl} {H : Hp} {K : Next'} {ops : List Oper} {rest : List Oper} {a : Act} {w : World} {e : Env} {t t' ty : TypeId} {x y : Operand}
theorem cSV_mp (v:Value) (i:Nat):cSV v≠.mp i:=by unfold cSV;split <;> simp
theorem entries_get {es:Array MapEntry} {kvs:List (MK × Int)} (h:es.toList.map (fun x=>(x.key,x.val))=kvs.map (fun p=>(p.1.val,Value.int .i64 p.2))) {j:Nat} {x:MapEntry} (hj:es.toList[j]? = some x):∃ p,kvs[j]? = some p∧x.key=p.1.val∧x.val = .int .i64 p.2:=by
 have h1:(es.toList.map (fun x=>(x.key,x.val)))[j]? = some (x.key,x.val):=by rw [List.getElem?_map,hj];rfl
 rw [h,List.getElem?_map] at h1
 cases hk:kvs[j]? with
 | none=>rw [hk] at h1;cases h1
 | some p =>
  rw [hk] at h1
  simp only [Option.map_some,Option.some.injEq,Prod.mk.injEq] at h1
  exact⟨p,rfl,h1.1.symm,h1.2.symm⟩
theorem entries_of {es:Array MapEntry} {kvs:List (MK × Int)} (h:es.toList.map (fun x=>(x.key,x.val))=kvs.map (fun p=>(p.1.val,Value.int .i64 p.2))) {x:MapEntry} (hx:x∈es.toList):∃ p∈kvs,x.key=p.1.val∧x.val = .int .i64 p.2:=by
 obtain⟨j,hj⟩:=List.mem_iff_getElem?.1 hx
 obtain⟨p,h1,h2⟩:=entries_get h hj
 exact⟨p,List.mem_of_getElem? h1,h2⟩
theorem map_find {P:Program} {kt:TypeId} {kd:Bool} {kvs:List (MK × Int)} {es:Array MapEntry} (K:Keyed P kt) (hof:∀ key:MK,key.ok kd→∃ l,keyOf P kt key.val=some l) (hes:es.toList.map (fun x=>(x.key,x.val))=kvs.map (fun p=>(p.1.val,Value.int .i64 p.2)))
  (hkeys:kvs.Pairwise fun p q=>p.1≠q.1) (hwf:∀ p∈kvs,p.1.ok kd∧(Lit.int .i64 p.2).wf=true) {key:MK} (hk:key.ok kd) (w:World) :
  ((Instr.findKey kt key.val es.toList).run P w = .ok none w∧mapGet? kvs key=none∧∀ p∈kvs,p.1≠key)∨∃ j x n,(Instr.findKey kt key.val es.toList).run P w = .ok (some (j,.int .i64 n)) w∧es.toList[j]? = some x∧x.key=key.val∧kvs[j]? = some (key,n)∧mapGet? kvs key=some n∧(Lit.int .i64 n).wf=true:=by
 obtain⟨l,hl⟩:=hof key hk
 have hall:∀ e∈es.toList,∃ l,keyOf P kt e.key=some l:=fun x hx=>by
  obtain⟨p,h1,h2,_⟩:=entries_of hes hx
  rw [h2];exact hof _ (hwf p h1).1
 rcases K.find w hl es.toList hall with ⟨h1,h2⟩|⟨j,x,h1,h2,h3⟩
 ·have hno:∀ p∈kvs,p.1≠key:=fun p hp he=>by
   obtain⟨j,hj⟩:=List.mem_iff_getElem?.1 hp
   have hj2:(es.toList.map (fun x=>(x.key,x.val)))[j]? = some (p.1.val,Value.int .i64 p.2):=by rw [hes,List.getElem?_map,hj];rfl
   rw [List.getElem?_map] at hj2
   cases hx:es.toList[j]? with
   | none=>rw [hx] at hj2;cases hj2
   | some x =>
    rw [hx] at hj2
    simp only [Option.map_some,Option.some.injEq,Prod.mk.injEq] at hj2
    exact h2 x (List.mem_of_getElem? hx) (by rw [hj2.1,he])
  exact .inl ⟨h1,mapGet_none hno,hno⟩
 ·obtain⟨p,q1,q2,q3⟩:=entries_get hes h2
  have hpk:p.1=key:=MK.val_inj (by rw [← q2,h3])
  obtain⟨pk,n⟩:=p
  subst hpk
  rw [q3] at h1
  exact .inr ⟨j,x,n,h1,h2,h3,q1,mapGet_some hkeys (List.mem_of_getElem? q1),(hwf _ (List.mem_of_getElem? q1)).2⟩
theorem stamps_push {es:Array MapEntry} {clock:Nat} {k v:Value} (h:Stamps es clock):Stamps (es.push ⟨k,v,clock⟩) (clock + 1):=by
 refine⟨?_,fun x hx=>?_⟩
 ·rw [Array.toList_push]
  refine List.pairwise_append.2 ⟨h.1,List.pairwise_singleton _ _,fun x hx y hy=>?_⟩
  rw [List.mem_singleton] at hy
  subst hy
  have:=h.2 x hx
  dsimp only
  omega
 ·rw [Array.toList_push] at hx
  rcases List.mem_append.1 hx with hx|hx
  ·have:=h.2 x hx;omega
  ·rw [List.mem_singleton] at hx
   subst hx
   exact Nat.lt_succ_self _
theorem borns_modify {es:Array MapEntry} {j:Nat} {f:MapEntry→MapEntry} (hf:∀ x,(f x).born=x.born):(es.modify j f).toList.map (·.born)=es.toList.map (·.born):=by
 apply List.ext_getElem?
 intro q
 rw [List.getElem?_map,List.getElem?_map,Array.getElem?_toList,Array.getElem?_toList,Array.getElem?_modify]
 by_cases hq:j=q
 ·rw [if_pos hq]
  cases es[q]? with
  | none=>rfl
  | some x=>simp [hf]
 ·rw [if_neg hq]
theorem stamps_modify {es:Array MapEntry} {clock j:Nat} {f:MapEntry→MapEntry} (h:Stamps es clock) (hf:∀ x,(f x).born=x.born):Stamps (es.modify j f) clock:=by
 have hb:=borns_modify (es:=es) (j:=j) hf
 have h1:(es.toList.map (·.born)).Pairwise (·≠·):=List.pairwise_map.2 h.1
 rw [← hb] at h1
 refine⟨List.pairwise_map.1 h1,fun x hx=>?_⟩
 have hm:x.born∈(es.modify j f).toList.map (·.born):=List.mem_map.2 ⟨x,hx,rfl⟩
 rw [hb] at hm
 obtain⟨y,hy,he⟩:=List.mem_map.1 hm
 rw [← he]
 exact h.2 y hy
theorem wf_zero:(Lit.int .i64 0).wf=true:=by decide
theorem look_run {P:Program} {kd:Bool} {kvs:List (MK × Int)} {key:MK} (T:MapT P t kd) (c:Bool) {w:World} {b:Nat} (hM:MapIs w b kd kvs) (hok:key.ok kd) :
  (Instr.lookup t (.map (some b)) key.val c).run P w = .ok (if c then .tuple #[.int .i64 ((mapGet? kvs key).getD 0),.bool (mapGet? kvs key).isSome] else .int .i64 ((mapGet? kvs key).getD 0)) w∧(Lit.int .i64 ((mapGet? kvs key).getD 0)).wf=true:=by
 obtain⟨kt,et,ht,K,hof,hz⟩:=T.ty
 obtain⟨⟨es,clock,hb,hes,hst⟩,hkeys,hwf⟩:=hM
 obtain⟨l,hl⟩:=hof key hok
 rcases map_find K hof hes hkeys hwf hok w with ⟨h1,h2,_⟩|⟨j,x0,n,h1,_,_,_,h2,h3⟩
 ·refine⟨?_,by rw [h2];exact wf_zero⟩
  simp [Instr.lookup,run_underlying ht,MapKept.run_getObj_map hb,K.check w _ hl,h1,hz w,h2,Result.andThen]
 ·refine⟨?_,by rw [h2];exact h3⟩
  simp [Instr.lookup,run_underlying ht,MapKept.run_getObj_map hb,K.check w _ hl,h1,h2,Result.andThen]
def lookAt (H:Hp) (s:SV) (kd:Bool) (kvs:List (MK × Int)):Prop:=match s with
 | .mp i=>Hp.get H i=some (.map kd kvs)
 | .md kd' kvs'=>kd' = kd∧kvs' = kvs
 | _=>False
theorem cSV_md (v:Value) (kd:Bool) (kvs:List (MK × Int)):cSV v≠.md kd kvs:=by unfold cSV;split <;> simp
theorem lookAt_is {kd:Bool} {kvs:List (MK × Int)} (m:Models Γ k L H e a w) (h:lookAt H (opSV L x) kd kvs):∃ b,a.eval x = .map (some b)∧b < w.heap.size∧MapIs w b kd kvs:=by
 unfold lookAt at h
 split at h
 ·rename_i i hx
  obtain⟨_,hv⟩:=evT m hx (cSV_mp · _)
  exact⟨_,hv,m.toHeap.lt (e.β i) (List.mem_filterMap.2 ⟨_,Hp.mem_of h,rfl⟩),(m.heap _ (Hp.mem_of h)).2⟩
 ·rename_i kd' kvs' hx
  obtain⟨rfl,rfl⟩:=h
  obtain⟨b,h1,h2,_,h3⟩:=evT m hx (cSV_md · _ _)
  exact⟨b,h1,h2,h3⟩
 ·exact h.elim
theorem ev_lookupOk {kd:Bool} {kvs:List (MK × Int)} {key:MK} (T:MapT Γ.P t kd) (hx:lookAt H (opSV L x) kd kvs) (hy:keyC (opSV L y)=some key) (hkd:key.kd=kd) (hyo:opOkB y=true) :
  Ev Γ k L H (.lookup t x y true) ty (.tup [.d (.int .i64 ((mapGet? kvs key).getD 0)),.d (.bool (mapGet? kvs key).isSome)]):=by
 intro e a w m
 obtain⟨b,hvx,hlt,hM⟩:=lookAt_is m hx
 obtain⟨hvy,hok⟩:=keyC_rel hy (m.op y (opOkB_spec hyo))
 rw [hkd] at hok
 refine⟨.tuple #[.int .i64 ((mapGet? kvs key).getD 0),.bool (mapGet? kvs key).isSome],fun _ _ _ _ w' hw=>?_,⟨[_,_],rfl,.int (look_run T true hM hok).2,.bool,trivial⟩⟩
 have h1:=(look_run T true (hM.keep fun _ _ h=>(hw.block _ hlt).trans h) hok).1
 simp only [execOp,hvx,hvy,Sem.run_bind,Sem.run_pure,h1,Result.andThen_ok]
 rfl
theorem ev_lenMap {i:Nat} {kd:Bool} {kvs:List (MK × Int)} (T:MapT Γ.P t kd) (hx:opSV L x = .mp i) (hH:Hp.get H i=some (.map kd kvs)) (hlen:kvs.length≤9223372036854775807):Ev Γ k L H (.call { callee:=.builtin .len,args:=#[x],argTypes:=#[t] }) ty (.d (.int .i64 kvs.length)):=by
 intro e a w m
 obtain⟨kt,et,ht,K,hof,hz⟩:=T.ty
 obtain⟨_,hvx⟩:=evT m hx (cSV_mp · _)
 have hM:MapIs w (e.β i) kd kvs:=(m.heap _ (Hp.mem_of hH)).2
 have hlt:=m.toHeap.lt (e.β i) (List.mem_filterMap.2 ⟨_,Hp.mem_of hH,rfl⟩)
 obtain⟨⟨es,clock,hb,hes,hst⟩,hkeys,hwf⟩:=hM
 have hsz:es.size=kvs.length:=by
  have:=congrArg List.length hes
  simpa using this
 refine⟨.int .i64 kvs.length,fun _ _ _ _ w' hw=>?_,.int (WalkArith.wf_i64 (by omega))⟩
 have hb':w'.heap[e.β i]? = some (.map es clock):=(hw.block _ hlt).trans hb
 simp [execOp,resolve,invoke,builtin,hvx,Builtin.len_,goInt,run_underlying ht,MapKept.run_getObj_map hb',Result.andThen,hsz]
theorem op_mapNew {d z:Nat} {kd:Bool} {pos:String} {af:Array Edge} {g:Option (Nat × Bool)} (hz:¬ k z) (hd:Nat.blt d Γ.n=true):OpOk Γ ⟨some d,.makeMap t none,ty,pos,af,g⟩ k L H (with1 k z) ((d,.mp z)::L) ((z,.map kd [])::H):=by
 intro e a w Q m
 have hze:¬ e.dom z:=fun h=>hz ((m.top z).1 h)
 have hrun:(execOp a.eval ⟨some d,.makeMap t none,ty,pos,af,g⟩).run Γ.P w = .ok (.value (.map (some w.heap.size))) (w.alloc (.map #[] 0)):=by
  simp only [execOp,Option.map_none,Sem.run_bind,run_makeMap,Result.andThen_ok,Sem.run_pure]
 unfold Oper.wp
 rw [hrun]
 have m2:=m.new hz (hb:=.map kd []) (e':=e.bind z w.heap.size) (w':=w.alloc (.map #[] 0)) (fun i=>or_congr (m.top i) Iff.rfl) (e.bind_ext _ _ hze) ⟨(Below.refl _ _).alloc (Nat.le_refl _) _,fun _=>Nat.le_refl _⟩
  (fun b hb=>by simp [HB.owned,Env.bind] at hb;omega) (fun _=>⟨⟨#[],0,by show (w.alloc (.map #[] 0)).heap[(e.bind z w.heap.size).β z]? = _;rw [show (e.bind z w.heap.size).β z=w.heap.size from if_pos rfl];exact (MapKept.heap_alloc w _).1,rfl,.nil,by simp⟩,.nil,by simp⟩)
 refine⟨_,m2.put (s:=.mp z) (v:=.map (some w.heap.size)) (Nat.le_of_ble_eq_true hd) ⟨.inr rfl,?_⟩⟩
 show _=Value.map (some (if z=z then w.heap.size else e.β z));rw [if_pos rfl]
theorem op_mapSet {i:Nat} {kd:Bool} {kvs:List (MK × Int)} {key:MK} {n:Int} {u:Operand} {dst:Option Nat} {pos:String} {af:Array Edge} {g:Option (Nat × Bool)} (T:MapT Γ.P t kd) (hx:opSV L x = .mp i) (hH:Hp.get H i=some (.map kd kvs)) (hy:keyC (opSV L y)=some key) (hkd:key.kd=kd) (hyo:opOkB y=true)
  (hu:opSV L u = .d (.int .i64 n)) (huo:opOkB u=true) (hdst:dst=none):OpOk Γ ⟨dst,.mapUpdate t x y u,ty,pos,af,g⟩ k L H k L (Hp.set H i (.map kd (mapSet kvs key n))):=by
 subst hdst
 intro e a w Q m
 obtain⟨kt,et,ht,K,hof,hz⟩:=T.ty
 obtain⟨_,hvx⟩:=evT m hx (cSV_mp · _)
 obtain⟨hvy,hok⟩:=keyC_rel hy (m.op y (opOkB_spec hyo))
 rw [hkd] at hok
 have hru:=m.op u (opOkB_spec huo)
 rw [hu] at hru
 obtain⟨hvu,hnwf⟩:a.eval u = .int .i64 n∧(Lit.int .i64 n).wf=true:=by
  have hru:RepC _ _ _ _:=hru
  generalize a.eval u=vu at hru
  cases hru with
  | int h=>exact⟨rfl,h⟩
 have hM:MapIs w (e.β i) kd kvs:=(m.heap _ (Hp.mem_of hH)).2
 have hlt:=m.toHeap.lt (e.β i) (List.mem_filterMap.2 ⟨_,Hp.mem_of hH,rfl⟩)
 obtain⟨⟨es,clock,hb,hes,hst⟩,hkeys,hwf⟩:=hM
 obtain⟨l,hl⟩:=hof key hok
 have hrun:∃ es' clock',(Instr.mapUpdate t (.map (some (e.β i))) key.val (.int .i64 n)).run Γ.P w = .ok () { w with heap:=w.heap.setIfInBounds (e.β i) (.map es' clock') }∧es'.toList.map (fun x=>(x.key,x.val))=(mapSet kvs key n).map (fun p=>(p.1.val,Value.int .i64 p.2))∧Stamps es' clock':=by
  rcases map_find K hof hes hkeys hwf hok w with ⟨h1,_,h2⟩|⟨j,x0,n0,h1,h2,h3,h4,_,_⟩
  ·refine⟨es.push ⟨key.val,.int .i64 n,clock⟩,clock + 1,?_,?_,stamps_push hst⟩
   ·simp [Instr.mapUpdate,run_underlying ht,MapKept.run_getObj_map hb,K.check w false hl,h1,MapKept.run_setObj_map _ hb,Result.andThen]
   ·rw [mapSet_new h2,Array.toList_push,List.map_append,List.map_append,hes]
    rfl
  ·have hj2:es[j]? = some x0:=by simpa using h2
   have hjl:j < es.size:=(Array.getElem?_eq_some_iff.1 hj2).1
   refine⟨es.modify j fun x=>{ x with key:=key.val,val:=.int .i64 n },clock,?_,?_,stamps_modify hst fun _=>rfl⟩
   ·have hst:(Instr.keyThatStays (((es[j]?).map (·.key)).getD key.val) key.val).run Γ.P w = .ok key.val w:=by
     rw [hj2]
     show (Instr.keyThatStays x0.key key.val).run Γ.P w=_
     rw [h3]
     exact K.stays w hl
    simp [Instr.mapUpdate,run_underlying ht,MapKept.run_getObj_map hb,K.check w false hl,h1,hst,MapKept.run_setObj_map _ hb,Result.andThen]
   ·rw [mapSet_old hkeys h4,List.map_set,← hes]
    apply List.ext_getElem?
    intro q
    by_cases hq:q=j
    ·subst hq
     simp [hjl]
    ·simp [Ne.symm hq]
 obtain⟨es',clock',hr,hes'⟩:=hrun
 unfold Oper.wp
 simp only [execOp,hvx,hvy,hvu,Sem.run_bind,Sem.run_pure,hr,Result.andThen_ok]
 refine⟨e,?_⟩
 have m2:=m.turn (w':={ w with heap:=w.heap.setIfInBounds (e.β i) (.map es' clock') }) (b':=.map kd (mapSet kvs key n)) hH (by simp) rfl rfl rfl (fun _=>Nat.le_refl _) (fun c hc hne=>?_) rfl ⟨⟨es',clock',?_,hes'⟩,mapSet_pairs _ _ _ hkeys,fun p hp=>?_⟩
 ·exact m2
 ·have hne':e.β i≠c:=fun h=>hne (by simp [HB.owned,h])
  exact Array.getElem?_setIfInBounds_ne hne'
 ·show (w.heap.setIfInBounds (e.β i) (.map es' clock'))[e.β i]? = _
  simp [hlt]
 ·rcases mapSet_keys key n kvs p hp with h|h
  ·rw [h];exact⟨hok,hnwf⟩
  ·exact hwf p h
end
section
variable {Γ : Ctx} {k : Nat} {L : Sl} {H : Hp} {K : Next'} {ops : List Oper} {rest : List Oper} {t t' ty : TypeId} {x y : Operand} {q : Bool}
theorem ds_lookupOk {kd:Bool} {kvs:List (MK × Int)} {key:MK} {d:Nat} {pos:String} {af:Array Edge} {g:Option (Nat × Bool)} (T:MapT Γ.P t kd) (hx:lookAt H (opSV L x) kd kvs) (hy:keyC (opSV L y)=some key) (hkd:key.kd=kd) (hyo:opOkB y=true)
  (hw:wantedSV ops L g=some true) (hd:Nat.blt d Γ.n=true) (hk:DS q Γ ops rest K k ((d,.tup [.d (.int .i64 ((mapGet? kvs key).getD 0)),.d (.bool (mapGet? kvs key).isSome)])::L) H):DS q Γ ops (⟨some d,.lookup t x y true,ty,pos,af,g⟩::rest) K k L H :=
 ds_ev (ev_lookupOk T hx hy hkd hyo) hw hd hk
theorem dt_lookupOk (i0:Nat) {κ i:Nat} {rem:List (Nat × Oper)} {lg:Log} {Kf:FS→Prop} {kd:Bool} {kvs:List (MK × Int)} {key:MK} {d:Nat} {pos:String} {af:Array Edge} {g:Option (Nat × Bool)} (T:MapT Γ.P t kd) (hx:opSV L x = .mp i0) (hH:Hp.get H i0=some (.map kd kvs)) (hy:keyC (opSV L y)=some key) (hkd:key.kd=kd) (hyo:opOkB y=true)
  (hw:wantedSV ops L g=some true) (hd:Nat.blt d Γ.n=true) (hlog:okLog ops i [i0] [] lg=true) (hk:DT Γ ops κ rem ((i,[i0],[])::lg) Kf ((d,.tup [.d (.int .i64 ((mapGet? kvs key).getD 0)),.d (.bool (mapGet? kvs key).isSome)])::L) H) :
  DT Γ ops κ ((i,⟨some d,.lookup t x y true,ty,pos,af,g⟩)::rem) lg Kf L H:=by
 unfold DT at hk ⊢
 refine .cons true _ [i0] [] (.look d i0 (.tup [.d (.int .i64 ((mapGet? kvs key).getD 0)),.d (.bool (mapGet? kvs key).isSome)]) ((wantedF_eq ops L g).trans hw) rfl rfl (fun k' L' H' h1 h2=>?_) hd) hlog ⟨_,_,rfl,rfl⟩ (fun v u hv=>by rw [hv.2];rfl) fun v u hv=>?_
 ·have e1:opSV L' x = .mp i0:=by rw [h1 x (by simp [Op.operands]),ofL_op];exact hx
  have e2:opSV L' y=opSV L y:=by rw [h1 y (by simp [Op.operands]),ofL_op]
  have e3:Hp.get H' i0=some (.map kd kvs):=h2.trans hH
  exact ev_lookupOk T (by rw [e1];exact e3) (by rw [e2];exact hy) hkd hyo
 ·obtain⟨rfl,rfl⟩:=hv
  show DR Γ ops κ rem _ Kf ((ofL L H).app (κ + i) (some d) _ .no)
  rw [show (ofL L H).app (κ + i) (some d) (.tup [.d (.int .i64 ((mapGet? kvs key).getD 0)),.d (.bool (mapGet? kvs key).isSome)]) .no=ofL ((d,.tup [.d (.int .i64 ((mapGet? kvs key).getD 0)),.d (.bool (mapGet? kvs key).isSome)])::L) H from ofL_put L H (some d) _]
  exact hk
theorem ds_lenMap (i:Nat) {kd:Bool} {kvs:List (MK × Int)} {d:Nat} {pos:String} {af:Array Edge} {g:Option (Nat × Bool)} (T:MapT Γ.P t kd) (hx:opSV L x = .mp i) (hH:Hp.get H i=some (.map kd kvs)) (hlen:kvs.length≤9223372036854775807)
  (hw:wantedSV ops L g=some true) (hd:Nat.blt d Γ.n=true) (hk:DS q Γ ops rest K k ((d,.d (.int .i64 kvs.length))::L) H):DS q Γ ops (⟨some d,.call { callee:=.builtin .len,args:=#[x],argTypes:=#[t] },ty,pos,af,g⟩::rest) K k L H :=
 ds_ev (ev_lenMap T hx hH hlen) hw hd hk
theorem ds_mapNew (kd:Bool) {d:Nat} {pos:String} {af:Array Edge} {g:Option (Nat × Bool)} (hw:wantedSV ops L g=some true) (hd:Nat.blt d Γ.n=true)
  (hk:DS false Γ ops rest K (k + 1) ((d,.mp k)::L) ((k,.map kd [])::H)):DS false Γ ops (⟨some d,.makeMap t none,ty,pos,af,g⟩::rest) K k L H :=
 dl_op hw ((op_mapNew (lo_not k) hd).cast (with1_lo k)) hk
theorem ds_mapSet (i:Nat) {kd:Bool} {kvs:List (MK × Int)} {key:MK} {n:Int} {u:Operand} {H':Hp} {pos:String} {af:Array Edge} {g:Option (Nat × Bool)} (T:MapT Γ.P t kd) (hx:opSV L x = .mp i) (hH:Hp.get H i=some (.map kd kvs)) (hy:keyC (opSV L y)=some key) (hkd:key.kd=kd) (hyo:opOkB y=true)
  (hu:opSV L u = .d (.int .i64 n)) (huo:opOkB u=true) (hS:setF H i (.map kd (mapSet kvs key n)) some=some H') (hw:wantedSV ops L g=some true)
  (hk:DS false Γ ops rest K k L H'):DS false Γ ops (⟨none,.mapUpdate t x y u,ty,pos,af,g⟩::rest) K k L H:=by
 rw [setF_eq] at hS
 cases hS
 exact dl_op hw (op_mapSet T hx hH hy hkd hyo hu huo rfl) hk
end
def placeT (s:ByteArray):List ByteArray→Nat
 | []=>0
 | t::l=>if t=s then 0 else placeT s l + 1
theorem placeT_le (s:ByteArray):∀ l,placeT s l≤l.length
 | []=>Nat.le_refl _
 | t::l=>by unfold placeT;have:=placeT_le s l;rw [List.length_cons];split <;> omega
theorem placeT_drop {s:ByteArray} {l:List ByteArray} {i:Nat} (hi:i < l.length):placeT s (l.drop i)=if l[i]=s then 0 else placeT s (l.drop (i + 1)) + 1:=by
 rw [List.drop_eq_getElem_cons hi];rfl
def kvT (n:Nat):List ByteArray→List (MK × Int)
 | []=>[]
 | t::l=>(.str t,(n:Int))::kvT (n + 1) l
theorem kvT_len:∀ (l:List ByteArray) (n:Nat),(kvT n l).length=l.length
 | [],_=>rfl
 | _::l,n=>by unfold kvT;rw [List.length_cons,List.length_cons,kvT_len l]
theorem kvT_get (s:ByteArray):∀ (l:List ByteArray) (n:Nat),mapGet? (kvT n l) (.str s)=if placeT s l < l.length then some ((n + placeT s l:Nat):Int) else none
 | [],n=>rfl
 | t::l,n=>by
  unfold kvT mapGet? placeT
  by_cases h:t=s
  ·subst h
   rw [if_pos (MK.eqb_self _),if_pos rfl,if_pos (by rw [List.length_cons];omega)]
   rfl
  ·rw [if_neg (fun hc=>h (by have:=MK.eqb_iff.1 hc;injection this)),if_neg h,kvT_get s l (n + 1),List.length_cons]
   by_cases h2:placeT s l < l.length
   ·rw [if_pos h2,if_pos (by omega),show n + 1 + placeT s l=n + (placeT s l + 1) by omega]
   ·rw [if_neg h2,if_neg (by omega)]
theorem kvT_set (s:ByteArray):∀ (l:List ByteArray) (n:Nat),placeT s l=l.length→mapSet (kvT n l) (.str s) ((n + l.length:Nat):Int)=kvT n (l++[s])
 | [],n,_=>rfl
 | t::l,n,h=>by
  unfold placeT at h
  by_cases ht:t=s
  ·rw [if_pos ht] at h;cases h
  ·rw [if_neg ht,List.length_cons] at h
   show mapSet ((.str t,(n:Int))::kvT (n + 1) l) _ _=(.str t,(n:Int))::kvT (n + 1) (l++[s])
   unfold mapSet
   rw [if_neg (fun hc=>ht (by have:=MK.eqb_iff.1 hc;injection this)),List.length_cons,show n + (l.length + 1)=n + 1 + l.length by omega,kvT_set s l (n + 1) (by omega)]
structure SS where
 names:List ByteArray
 arity:List Int
 rules:List Rul
 vars:List ByteArray
 at_:Int
 e:Int
namespace SS
def wrong (x:SS) (a e:Int):SS:=if x.e=0 then ⟨x.names,x.arity,x.rules,x.vars,a,e⟩ else x
def addP (x:SS) (s:ByteArray) (n:Int):SS:=if placeT s x.names=x.names.length then ⟨x.names++[s],x.arity++[n],x.rules,x.vars,x.at_,x.e⟩ else x
def pred (x:SS) (a:Int) (s:ByteArray) (n:Int):SS:=if (x.addP s n).arity.getD (placeT s x.names) 0=n then x.addP s n else (x.addP s n).wrong a 1
def num (x:SS) (a:Int) (t:TTm):SS:=if numB t.n=true then x else x.wrong a 3
def addV (x:SS) (s:ByteArray):SS:=if placeT s x.vars=x.vars.length then ⟨x.names,x.arity,x.rules,x.vars++[s],x.at_,x.e⟩ else x
def trm (x:SS) (t:TTm):Trm:=⟨if t.var=⟨#[]⟩ then -1 else placeT t.var x.vars,t.n⟩
def term (x:SS) (a:Int) (t:TTm):SS:=if t.var=⟨#[]⟩ then x.num a t else (x.num a t).addV t.var
def terms (x:SS) (a:Int):List TTm→SS
 | []=>x
 | t::l=>(x.term a t).terms a l
def trms (x:SS) (a:Int):List TTm→List Trm
 | []=>[]
 | t::l=>x.trm t::(x.term a t).trms a l
def litP (x:SS) (l:TLt):SS:=if l.kind≤2 then x.pred l.at_ l.name l.terms.length else x
def lit (x:SS) (l:TLt):SS:=(x.litP l).terms l.at_ l.terms
def litV (x:SS) (l:TLt):Ltl:=⟨l.kind,l.op,if l.kind≤2 then placeT l.name x.names else 0,(x.litP l).trms l.at_ l.terms⟩
def lits (x:SS):List TLt→SS
 | []=>x
 | t::l=>(x.lit t).lits l
def litVs (x:SS):List TLt→List Ltl
 | []=>[]
 | t::l=>x.litV t::(x.lit t).litVs l
def fresh (x:SS):SS:=⟨x.names,x.arity,x.rules,[],x.at_,x.e⟩
def headS (x:SS) (r:TRu):SS:=(x.fresh.pred r.at_ r.name r.terms.length).terms r.at_ r.terms
def ruleV (x:SS) (r:TRu):Rul:=⟨placeT r.name x.names,(x.fresh.pred r.at_ r.name r.terms.length).trms r.at_ r.terms,r.fold,(x.headS r).litVs r.body,((x.headS r).lits r.body).vars.length⟩
def addR (x:SS) (r:Rul):SS:=⟨x.names,x.arity,x.rules++[r],x.vars,x.at_,x.e⟩
def rule (x:SS) (r:TRu):SS:=((x.headS r).lits r.body).addR (x.ruleV r)
def all (x:SS):List TRu→SS
 | []=>x
 | r::l=>if x.e=0 then (x.rule r).all l else x
def Keep (x y:SS):Prop:=x.e≠0→y.at_=x.at_∧y.e=x.e
theorem Keep.trans {x y z:SS} (h:Keep x y) (g:Keep y z):Keep x z:=fun hx=>by
 obtain⟨h1,h2⟩:=h hx
 obtain⟨g1,g2⟩:=g (by rw [h2];exact hx)
 exact⟨g1.trans h1,g2.trans h2⟩
theorem Keep.rfl' (x:SS):Keep x x:=fun _=>⟨rfl,rfl⟩
theorem keep_wrong (x:SS) (a e:Int):Keep x (x.wrong a e):=fun h=>by unfold wrong;rw [if_neg h];exact⟨rfl,rfl⟩
theorem keep_addP (x:SS) (s:ByteArray) (n:Int):Keep x (x.addP s n):=fun _=>by unfold addP;split <;> exact⟨rfl,rfl⟩
theorem keep_pred (x:SS) (a:Int) (s:ByteArray) (n:Int):Keep x (x.pred a s n):=by
 unfold pred
 split
 ·exact keep_addP x s n
 ·exact (keep_addP x s n).trans (keep_wrong _ _ _)
theorem keep_num (x:SS) (a:Int) (t:TTm):Keep x (x.num a t):=by
 unfold num
 split
 ·exact .rfl' x
 ·exact keep_wrong _ _ _
theorem keep_addV (x:SS) (s:ByteArray):Keep x (x.addV s):=fun _=>by unfold addV;split <;> exact⟨rfl,rfl⟩
theorem keep_term (x:SS) (a:Int) (t:TTm):Keep x (x.term a t):=by
 unfold term
 split
 ·exact keep_num x a t
 ·exact (keep_num x a t).trans (keep_addV _ _)
theorem keep_terms:∀ (l:List TTm) (x:SS) (a:Int),Keep x (x.terms a l)
 | [],x,_=>.rfl' x
 | t::l,x,a=>(keep_term x a t).trans (keep_terms l _ a)
theorem keep_litP (x:SS) (l:TLt):Keep x (x.litP l):=by
 unfold litP
 split
 ·exact keep_pred _ _ _ _
 ·exact .rfl' x
theorem keep_lit (x:SS) (l:TLt):Keep x (x.lit l):=(keep_litP x l).trans (keep_terms _ _ _)
theorem keep_lits:∀ (l:List TLt) (x:SS),Keep x (x.lits l)
 | [],x=>.rfl' x
 | t::l,x=>(keep_lit x t).trans (keep_lits l _)
theorem keep_all:∀ (l:List TRu) (x:SS),Keep x (x.all l)
 | [],x=>.rfl' x
 | r::l,x=>fun h=>by unfold all;rw [if_neg h];exact⟨rfl,rfl⟩
theorem wrong_names (x:SS) (a e:Int):(x.wrong a e).names=x.names∧(x.wrong a e).arity=x.arity∧(x.wrong a e).rules=x.rules∧(x.wrong a e).vars=x.vars:=by
 unfold wrong;split <;> exact⟨rfl,rfl,rfl,rfl⟩
theorem num_names (x:SS) (a:Int) (t:TTm):(x.num a t).names=x.names∧(x.num a t).arity=x.arity∧(x.num a t).rules=x.rules∧(x.num a t).vars=x.vars:=by
 unfold num
 split
 ·exact⟨rfl,rfl,rfl,rfl⟩
 ·exact wrong_names x a 3
theorem addV_names (x:SS) (s:ByteArray):(x.addV s).names=x.names∧(x.addV s).arity=x.arity∧(x.addV s).rules=x.rules∧x.vars.length≤(x.addV s).vars.length∧(x.addV s).vars.length≤x.vars.length + 1:=by
 unfold addV
 split
 ·exact⟨rfl,rfl,rfl,by simp,by simp⟩
 ·exact⟨rfl,rfl,rfl,Nat.le_refl _,Nat.le_succ _⟩
theorem term_names (x:SS) (a:Int) (t:TTm):(x.term a t).names=x.names∧(x.term a t).arity=x.arity∧(x.term a t).rules=x.rules∧(x.term a t).vars.length≤x.vars.length + 1:=by
 obtain⟨h1,h2,h3,h4⟩:=num_names x a t
 unfold term
 split
 ·exact⟨h1,h2,h3,by rw [h4];omega⟩
 ·obtain⟨g1,g2,g3,_,g4⟩:=addV_names (x.num a t) t.var
  exact⟨g1.trans h1,g2.trans h2,g3.trans h3,by rw [← h4];exact g4⟩
theorem terms_names:∀ (l:List TTm) (x:SS) (a:Int),(x.terms a l).names=x.names∧(x.terms a l).arity=x.arity∧(x.terms a l).rules=x.rules∧(x.terms a l).vars.length≤x.vars.length + l.length
 | [],x,_=>⟨rfl,rfl,rfl,Nat.le_refl _⟩
 | t::l,x,a=>by
  obtain⟨h1,h2,h3,h4⟩:=term_names x a t
  obtain⟨g1,g2,g3,g4⟩:=terms_names l (x.term a t) a
  unfold terms
  rw [List.length_cons]
  exact⟨g1.trans h1,g2.trans h2,g3.trans h3,by omega⟩
def Fit (x:SS) (n:Nat):Prop:=x.names.length=x.arity.length∧x.names.length≤n
theorem addP_fit {x:SS} {n:Nat} (h:x.Fit n) (s:ByteArray) (m:Int):(x.addP s m).Fit (n + 1)∧placeT s x.names < (x.addP s m).names.length∧(x.addP s m).vars=x.vars∧(x.addP s m).rules=x.rules:=by
 obtain⟨h1,h2⟩:=h
 have:=placeT_le s x.names
 unfold addP
 split
 ·refine⟨⟨?_,?_⟩,?_,rfl,rfl⟩
  ·show (x.names++[s]).length=(x.arity++[m]).length;simp [h1]
  ·show (x.names++[s]).length≤n + 1;simp;omega
  ·show _ < (x.names++[s]).length;simp;omega
 ·exact⟨⟨h1,by omega⟩,by omega,rfl,rfl⟩
theorem wrong_fit {x:SS} {n:Nat} (h:x.Fit n) (a e:Int):(x.wrong a e).Fit n:=by unfold wrong;split <;> exact h
theorem pred_fit {x:SS} {n:Nat} (h:x.Fit n) (a:Int) (s:ByteArray) (m:Int):(x.pred a s m).Fit (n + 1)∧(x.pred a s m).vars=x.vars∧(x.pred a s m).rules=x.rules:=by
 obtain⟨h1,_,h2,h3⟩:=addP_fit h s m
 unfold pred
 split
 ·exact⟨h1,h2,h3⟩
 ·exact⟨wrong_fit h1 a 1,(wrong_names _ _ _).2.2.2.trans h2,(wrong_names _ _ _).2.2.1.trans h3⟩
theorem terms_fit {x:SS} {n:Nat} (h:x.Fit n) (a:Int) (l:List TTm):(x.terms a l).Fit n:=by
 obtain⟨h1,h2,_⟩:=terms_names l x a
 unfold Fit
 rw [h1,h2]
 exact h
theorem lit_fit {x:SS} {n:Nat} (h:x.Fit n) (l:TLt):(x.lit l).Fit (n + 1)∧(x.lit l).rules=x.rules∧(x.lit l).vars.length≤x.vars.length + l.terms.length:=by
 unfold lit
 have hP:(x.litP l).Fit (n + 1)∧(x.litP l).rules=x.rules∧(x.litP l).vars=x.vars:=by
  unfold litP
  split
  ·have:=pred_fit h l.at_ l.name l.terms.length;exact⟨this.1,this.2.2,this.2.1⟩
  ·exact⟨⟨h.1,Nat.le_succ_of_le h.2⟩,rfl,rfl⟩
 obtain⟨_,_,g3,g4⟩:=terms_names l.terms (x.litP l) l.at_
 exact⟨terms_fit hP.1 _ _,g3.trans hP.2.1,by rw [hP.2.2] at g4;exact g4⟩
theorem lits_fit:∀ (l:List TLt) {x:SS} {n:Nat},x.Fit n→(x.lits l).Fit (n + l.length)∧(x.lits l).rules=x.rules
 | [],_,_,h=>⟨h,rfl⟩
 | t::l,x,n,h=>by
  obtain⟨h1,h2,_⟩:=lit_fit h t
  obtain⟨g1,g2⟩:=lits_fit l h1
  unfold lits
  rw [List.length_cons,show n + (l.length + 1)=n + 1 + l.length by omega]
  exact⟨g1,g2.trans h2⟩
theorem rule_fit {x:SS} {n:Nat} (h:x.Fit n) (r:TRu):(x.rule r).Fit (n + 1 + r.body.length)∧(x.rule r).rules.length=x.rules.length + 1:=by
 have h0:x.fresh.Fit n:=h
 obtain⟨h1,_,h2⟩:=pred_fit h0 r.at_ r.name r.terms.length
 have h3:=terms_fit h1 r.at_ r.terms
 obtain⟨h4,h5⟩:=lits_fit r.body h3
 refine⟨h4,?_⟩
 show (((x.headS r).lits r.body).rules++[x.ruleV r]).length=_
 rw [List.length_append,show ((x.headS r).lits r.body).rules=x.rules from h5.trans ((terms_names _ _ _).2.2.1.trans h2)]
 rfl
end SS
abbrev prgO:Prg:=⟨[],[],[]⟩
def resolveS (rs:List TRu):Prg × Int × Int :=
 if checkT rs≠0 then (prgO,0,4) else
 if (SS.all ⟨[],[],[],[],0,0⟩ rs).e≠0 then (prgO,(SS.all ⟨[],[],[],[],0,0⟩ rs).at_,(SS.all ⟨[],[],[],[],0,0⟩ rs).e) else
 if progE nameR ⟨(SS.all ⟨[],[],[],[],0,0⟩ rs).arity,(SS.all ⟨[],[],[],[],0,0⟩ rs).names,(SS.all ⟨[],[],[],[],0,0⟩ rs).rules⟩≠0 then (prgO,0,progE nameR ⟨(SS.all ⟨[],[],[],[],0,0⟩ rs).arity,(SS.all ⟨[],[],[],[],0,0⟩ rs).names,(SS.all ⟨[],[],[],[],0,0⟩ rs).rules⟩)
 else (⟨(SS.all ⟨[],[],[],[],0,0⟩ rs).arity,(SS.all ⟨[],[],[],[],0,0⟩ rs).names,(SS.all ⟨[],[],[],[],0,0⟩ rs).rules⟩,0,0)
def programS (s:ByteArray):Prg × Int × Int:=if (parseS s).2.2≠0 then (prgO,(parseS s).2.1,(parseS s).2.2) else resolveS (parseS s).1
end Go.Proofs.YtapciiffpnociacGreatDoor
namespace Go.Proofs.YtapciiffpnociacGreatDoor
open Go Go.RowKit
open Go.Maps (Keyed)
def zero64B (P:Program) (t:TypeId):Bool:=match P.info? t with
 | some i=>match i.zero with
  | some (.int .i64 n)=>decide (n=0)
  | _=>false
 | none=>false
theorem zero64B_spec {P:Program} {t:TypeId} (h:zero64B P t=true) (w:World):(zeroValue t).run P w = .ok (.int .i64 0) w:=by
 unfold zero64B at h
 split at h
 ·rename_i i hi
  split at h
  ·rename_i n hz
   have hn:=of_decide_eq_true h
   subst hn
   simp [zeroValue,typeInfo,hi,hz]
  ·cases h
 ·cases h
def mapSB (P:Program) (t:TypeId):Bool:=match P.underlying t with
 | some (.map k e)=>(match P.underlying k with|some .string=>true|_=>false) && zero64B P e
 | _=>false
theorem mapT_str {P:Program} {t:TypeId} (h:mapSB P t=true):MapT P t true:=by
 unfold mapSB at h
 split at h
 ·rename_i k e hu
  rw [Bool.and_eq_true] at h
  obtain⟨h1,h2⟩:=h
  split at h1
  ·rename_i hk
   refine⟨⟨k,e,hu,Go.Maps.string_keyed hk,fun key hok=>?_,zero64B_spec h2⟩⟩
   cases key with
   | str s=>exact⟨_,WideMaps.keyOf_string_mk hk hok.2⟩
   | pair a b=>obtain⟨h,_⟩:=hok;cases h
  ·cases h1
 ·cases h
end Go.Proofs.YtapciiffpnociacGreatDoor
namespace Go.Proofs.YtapciiffpnociacGreatDoor
open Go Go.RowKit
def Kepts (L:Sl):Sl→Prop
 | []=>True
 | (t,s)::r=>Sl.get L t=s∧Kepts L r
def params:List Nat→List SV→Sl→Sl
 | p::ps,s::ss,L=>params ps ss ((p,s)::L)
 | _,_,L=>L
theorem Heap.widen {Γ:Ctx} {k:Nat→Prop} {H:Hp} {e:Env} {w:World} {l:Nat} (h:Heap Γ k H e w) (hl:¬ Γ.O l):Heap ⟨Γ.P,Γ.τ,Γ.τok,Γ.O,Γ.w0,fun b=>Γ.E0 b∨b=l,Γ.n,Γ.J,Γ.β0,Γ.rd,Γ.pan,Γ.mks,Γ.dr⟩ k H e w where
 top:=h.top
 heap:=h.heap
 ids:=h.ids
 nodup:=h.nodup
 mine b hb:=⟨(h.mine b hb).1.imp .inl id,(h.mine b hb).2⟩
 os:=h.os
 tape:=h.tape
 output:=h.output
 drawn:=h.drawn
 size:=h.size
 block b h1 h2:=h.block b h1 fun h=>h2 (.inl h)
 obound b hb:=⟨(h.obound b hb).1,fun hx=>hx.elim (h.obound b hb).2 fun hx=>hl (hx▸hb)⟩
 jle:=h.jle
 anchor:=h.anchor
end Go.Proofs.YtapciiffpnociacGreatDoor
namespace Go.Proofs.YtapciiffpnociacGreatDoor
open Go Go.RowKit
def SV.flat:SV→Bool
 | .val _=>true
 | .junk=>true
 | .d (.int _ _)=>true
 | .d (.bool _)=>true
 | _=>false
theorem Rel.flat {X e w X' e' w'}:∀ (s:SV) (v:Value),s.flat=true→Rel X e w s v→Rel X' e' w' s v
 | .val _,_,_,h=>h
 | .junk,_,_,_=>trivial
 | .d (.int _ _),_,_,h=>by
  have h':RepC _ _ _ _:=h
  cases h' with
  | int g=>exact RepC.int g
 | .d (.bool _),_,_,h=>by
  have h:RepC _ _ _ _:=h
  cases h
  exact RepC.bool
 | .d (.str _),_,h,_=>nomatch h
 | .d (.slice _ _),_,h,_=>nomatch h
 | .nils,_,h,_=>nomatch h
 | .pd _,_,h,_=>nomatch h
 | .loc _ _,_,h,_=>nomatch h
 | .row _,_,h,_=>nomatch h
 | .mp _,_,h,_=>nomatch h
 | .md _ _,_,h,_=>nomatch h
 | .prow _ _ _ _,_,h,_=>nomatch h
 | .sl _ _ _ _,_,h,_=>nomatch h
 | .rsl _ _ _ _,_,h,_=>nomatch h
 | .fn _ _,_,h,_=>nomatch h
 | .agg _,_,h,_=>nomatch h
 | .tup _,_,h,_=>nomatch h
def flatB:Sl→Bool
 | []=>true
 | (_,s)::r=>s.flat && flatB r
theorem flat_get:∀ {L:Sl},flatB L=true→∀ t,(L.get t).flat=true
 | [],_,_=>rfl
 | (d,s)::r,h,t=>by
  simp only [flatB,Bool.and_eq_true] at h
  rw [Sl.get_cons]
  split
  ·exact h.1
  ·exact flat_get h.2 t
theorem kepts_get {L:Sl}:∀ {L':Sl},Kepts L L'→∀ t,L'.get t = .junk∨L'.get t=L.get t
 | [],_,_=>.inl rfl
 | (d,s)::r,h,t=>by
  rw [Sl.get_cons]
  split
  ·rename_i hd;subst hd;exact .inr h.1.symm
  ·exact kepts_get h.2 t
structure Flat (N:Nat) (L:Sl) (a:Act):Prop where
 len:a.tmps.size=N
 defers:a.defers=[]
 slot:∀ t X e w,Rel X e w (L.get t) (a.tmps.getD t undef)
abbrev Γit (P:Program) (τ:List (Nat × TI)) (τok:TabOk P τ) (O:Nat→Prop) (W:World) (N:Nat):Ctx:=⟨P,τ,τok,O,W,fun _=>False,N,0,fun _=>(0,undef),none,noPan,false,false⟩
section
variable {P : Program} {τ : List (Nat × TI)} {τok : TabOk P τ} {O : Nat → Prop} {N : Nat} {L : Sl}
theorem Models.flatten {W:World} {k:Nat→Prop} {H:Hp} {e:Env} {a:Act} {w:World} (m:Models (Γit P τ τok O W N) k L H e a w) {Ls:Sl} (hK:Kepts L Ls) (hf:flatB Ls=true):Flat N Ls a where
 len:=m.len
 defers:=by
  obtain⟨rs,h1,h0,_⟩:=m.defers
  rw [h1,h0 rfl];rfl
 slot t X e' w':=by
  have hg:=flat_get hf t
  rcases kepts_get hK t with h|h
  ·rw [h];trivial
  ·rw [h] at hg ⊢;exact Rel.flat _ _ hg (m.slot t)
end
section
variable {Γ : Ctx} {k : Nat} {L : Sl} {H : Hp} {K : Next'} {ops : List Oper} {rest : List Oper} {x y : Operand} {t ty : TypeId}
end
section
variable {Γ : Ctx} {k : Nat} {L : Sl} {H : Hp} {R : Exit → Act → World → Prop}
end
section
variable {Γ : Ctx} {k : Nat} {L : Sl} {H : Hp} {R : Exit → Act → World → Prop}
end
end Go.Proofs.YtapciiffpnociacGreatDoor
