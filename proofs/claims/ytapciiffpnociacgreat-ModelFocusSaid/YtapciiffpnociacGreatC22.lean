/- Several texts in one: MoE StrG MoF MoG SamP MoH MoI PrgIn StrH StrJ StrK StrT MoJ BmIn. Condition: none. -/
import Derived.Test.YtapciiffpnociacGreatC21
import Derived.Test.YtapciiffpnociacGreatC17
import Derived.Test.YtapciiffpnociacGreatC01
import Derived.Test.YtapciiffpnociacGreatC20
import Derived.Test.YtapciiffpnociacGreatC08
import Derived.Test.YtapciiffpnociacGreatC09
import Derived.Test.YtapciiffpnociacGreatC18

/- The program's model.Rights, All, Model, Is, Ask. Condition: none. -/
namespace Go.Proofs.YtapciiffpnociacGreat
open Go Go.RowKit
theorem mErr_lev {p:Prg} {l:List Fct}:mErr p l=if levE p≠0 then levE p else factsE p.arity l:=by
 unfold mErr levE
 by_cases h:progE nameR p=0
 ·rw [h]
  cases docOk p <;> simp
 ·simp [h]
attribute [local irreducible] DW DS DL DQ Ev FnOk FnP thenD inBlockD DT
set_option maxHeartbeats 8000000 in
theorem rights_fn (p:Prg) (l:List Fct):Fn 59 [elPrg p,.d (.slice 2 (l.map encFct))] (fun r=>r = .d (.int .i64 (factsE p.arity l))):=by
 refine fnp_enter' _ Tryz.func59 rfl rfl (by kernel_rfl) ?_
 intro O w0 E0 β0
 have ll:(l.map encFct).length=l.length:=List.length_map _
 refine dw_len_map (t:=1) rfl fun hk=>?_
 unfold factsE
 by_cases h2:60 < l.length
 ·rw [if_pos h2]
  repeat' (first|refine z0 ?_|apply ds_nil|apply dw_seq2|refine z16 ?_|apply dw_block|apply dw_skip|apply dw_ret|apply thenD_n|apply thenD_r|refine z1 ?_|(refine z23 ?_ ?_ <;> intro hg)|fail)
  all_goals try (exfalso;omega)
  all_goals exact⟨.inl rfl,_,rfl,rfl,rfl⟩
 ·rw [if_neg h2]
  repeat' (first|refine z0 ?_|apply ds_nil|apply dw_seq2|refine z16 ?_|apply dw_block|apply dw_skip|apply dw_ret|apply thenD_n|apply thenD_r|refine z1 ?_|(refine z23 ?_ ?_ <;> intro hg)|fail)
  all_goals try (exfalso;omega)
  refine ds_loop (ι:=Nat) (fun i=>⟨1,[(2,.loc 0 0),(11,.d (.slice 2 (l.map encFct))),(12,.d (.int .i64 l.length)),(13,.d (.int .i64 i))],[(0,.blk 26 [.d (.slice 1 (p.arity.map encI)),.d (.slice 1 (p.names.map encT)),.d (.slice 5 (p.rules.map encRul))])]⟩)
   (fun i=>i≤l.length∧firstL (factE p.arity) l=firstL (factE p.arity) (l.drop i)) (fun i=>l.length - i) 0 ⟨Nat.zero_le _,rfl⟩ (ent_ren id ⟨rfl,rfl,by rw [← ll];rfl,rfl,trivial⟩ ⟨rfl,trivial⟩ rfl rfl rfl rfl rfl rfl) ?_
  rintro i ⟨g1,g2⟩
  dsimp only at g1 g2 ⊢
  by_cases hi:i < l.length
  ·rw [firstL_step hi] at g2
   have w2:=fright_fn p l[i]
   by_cases h3:factE p.arity l[i]≠0
   ·rw [if_pos h3] at g2
    rw [g2]
    repeat' (first|refine z0 ?_|apply ds_nil|apply dw_seq2|refine z16 ?_|apply dw_block|apply dw_skip|apply dw_exit|apply dw_ret|apply thenD_n|apply thenD_e|apply thenD_r|apply inB_n|apply inB_r|refine z17 ?_|refine z21 ?_ (hc:=by apply w2)|refine z1 ?_|refine z3 ?_|(refine z23 ?_ ?_ <;> intro hg)|fail)
    all_goals try (exfalso;omega)
    all_goals exact⟨.inl rfl,_,rfl,rfl,rfl⟩
   ·rw [if_neg h3] at g2
    repeat' (first|refine z0 ?_|apply ds_nil|apply dw_seq2|refine z16 ?_|apply dw_block|apply dw_skip|apply dw_exit|apply dw_ret|apply thenD_n|apply thenD_e|apply thenD_r|apply inB_n|apply inB_r|refine z17 ?_|refine z21 ?_ (hc:=by apply w2)|refine z1 ?_|refine z3 ?_|(refine z23 ?_ ?_ <;> intro hg)|fail)
    all_goals try (exfalso;omega)
    exact⟨i + 1,⟨hi,g2⟩,ent_ren id ⟨rfl,rfl,rfl,rfl,trivial⟩ ⟨rfl,trivial⟩ rfl rfl rfl rfl rfl rfl,by omega⟩
  ·rw [firstL_end (by omega)] at g2
   rw [g2]
   repeat' (first|refine z0 ?_|apply ds_nil|apply dw_seq2|refine z16 ?_|apply dw_block|apply dw_skip|apply dw_exit|apply dw_ret|apply thenD_n|apply thenD_e|refine z17 ?_|refine z1 ?_|refine z3 ?_|(refine z23 ?_ ?_ <;> intro hg)|fail)
   all_goals try (exfalso;omega)
   all_goals exact⟨.inl rfl,_,rfl,rfl,rfl⟩
set_option maxHeartbeats 8000000 in
theorem mall_fn (p:Prg) (l:List Fct) :
  Fn 57 [elPrg p,.d (.slice 2 (l.map encFct))]
   (fun r=>∃ (m:List Fct) (hw:List Stp) (e:Int),r = .tup [.d (.slice 2 (m.map encFct)),.d (.slice 4 (hw.map encStp)),.d (.int .i64 e)]∧ModelR p l e m∧(e=0→HwOk l m hw∧HwM p (docLv p) p.arity.length l hw m)):=by
 refine fnp_enter' _ Tryz.func57 rfl rfl (by kernel_rfl) ?_
 intro O w0 E0 β0
 have w1:=levels_fn p
 have w2:=rights_fn p l
 by_cases h0:mErr p l=0
 ·have ho:=mOk h0
  have hE:levE p=0:=by unfold levE;rw [if_neg (by rw [ho.prog];simp),ho.doc];rfl
  have hL:levL p=docLv p:=by unfold levL;rw [if_pos ⟨ho.prog,ho.doc⟩]
  have hF:factsE p.arity l=0:=by rw [mErr_lev,if_neg (by rw [hE];simp)] at h0;exact h0
  rw [hE,hL] at w1
  rw [hF] at w2
  have w3:=built_fn p (docLv p) l ho.pr ho.fit ho.len ho.facts
  repeat' (first|refine z0 ?_|apply ds_nil|apply dw_seq2|refine z16 ?_|apply dw_skip|refine z18 ?_|refine z19 ?_|apply thenD_n|refine z21 ?_ (hc:=by apply w1)|refine z21 ?_ (hc:=by apply w2)|refine z1 ?_|fail)
  all_goals try (exfalso;omega)
  apply ds_call;exact rfl;exact rfl;exact w3;exact rfl;exact rfl;exact rfl
  rintro _ ⟨m,hw,b,rfl,⟨rfl,q1,q2,q3⟩|⟨rfl,rfl,rfl,q1⟩⟩
  ·clear w1 w2 w3
   repeat' (first|refine z0 ?_|apply ds_nil|apply dw_seq2|refine z16 ?_|apply dw_skip|apply dw_ret|refine z19 ?_|apply thenD_n)
   all_goals try (exfalso;omega)
   exact⟨.inl rfl,_,rfl,rfl,m,hw,0,rfl,.ok m h0 q1,fun _=>⟨q2,q3⟩⟩
  ·clear w1 w2 w3
   repeat' (first|refine z0 ?_|apply ds_nil|apply dw_seq2|refine z16 ?_|refine z18 ?_|apply thenD_n)
   all_goals try (exfalso;omega)
   refine dw_ent (ent_nild 4 2 rfl) ?_
   refine dw_ent (ent_nild 5 4 rfl) ?_
   repeat' (first|apply dw_ret|apply thenD_r)
   exact⟨.inl rfl,_,rfl,rfl,[],[],2,rfl,.much h0 q1,fun h=>absurd h (by simp)⟩
 ·have hE:=mErr_lev (p:=p) (l:=l)
  have hb:ModelR p l (mErr p l) []:=.bad h0
  by_cases hl:levE p=0
  ·rw [if_neg (by rw [hl];simp)] at hE
   rw [hl] at w1
   rw [hE] at h0 hb
   generalize factsE p.arity l=e at *
   repeat' (first|refine z0 ?_|apply ds_nil|apply dw_seq2|refine z16 ?_|apply dw_skip|refine z18 ?_|apply thenD_n|refine z21 ?_ (hc:=by apply w1)|refine z21 ?_ (hc:=by apply w2)|refine z1 ?_|(refine z23 ?_ ?_ <;> intro hg)|fail)
   all_goals try (exfalso;omega)
   refine dw_ent (ent_nild 4 2 rfl) ?_
   refine dw_ent (ent_nild 5 4 rfl) ?_
   repeat' (first|apply dw_ret|apply thenD_r)
   exact⟨.inl rfl,_,rfl,rfl,[],[],e,rfl,hb,fun h=>absurd h h0⟩
  ·rw [if_pos hl] at hE
   rw [hE] at h0 hb
   generalize levE p=e at *
   repeat' (first|refine z0 ?_|apply ds_nil|apply dw_seq2|refine z16 ?_|apply dw_skip|apply thenD_n|refine z21 ?_ (hc:=by apply w1)|refine z21 ?_ (hc:=by apply w2)|refine z1 ?_|(refine z23 ?_ ?_ <;> intro hg)|fail)
   all_goals try (exfalso;omega)
   refine dw_ent (ent_nild 4 2 rfl) ?_
   refine dw_ent (ent_nild 5 4 rfl) ?_
   repeat' (first|apply dw_ret|apply thenD_r)
   exact⟨.inl rfl,_,rfl,rfl,[],[],e,rfl,hb,fun h=>absurd h h0⟩
set_option maxHeartbeats 8000000 in
theorem model_fn (p:Prg) (l:List Fct) (e:Int) (m:List Fct) (hm:ModelR p l e m):Fn 20 [elPrg p,.d (.slice 2 (l.map encFct))] (fun r=>r = .tup [.d (.slice 2 (m.map encFct)),.d (.int .i64 e)]):=by
 refine fnp_enter' _ Tryz.func20 rfl rfl (by kernel_rfl) ?_
 intro O w0 E0 β0
 have w1:=mall_fn p l
 repeat' (first|refine z0 ?_|apply ds_nil|apply dw_seq2|refine z16 ?_|apply thenD_n|refine z1 ?_|fail)
 apply ds_call;exact rfl;exact rfl;exact w1;exact rfl;exact rfl;exact rfl
 rintro _ ⟨m',hw,e',rfl,q1,_⟩
 obtain⟨rfl,rfl⟩:=q1.unique hm
 repeat' (first|refine z0 ?_|apply ds_nil|apply dw_seq2|refine z16 ?_|apply dw_ret|apply thenD_n)
 exact⟨.inl rfl,_,rfl,rfl,rfl⟩
set_option maxHeartbeats 8000000 in
theorem is1_fn (a b:Fct):Fn 62 ([elFct a,elFct b]++[]) (fun r=>r = .d (.bool (Fct.same a b))):=by
 refine fnp_enter' _ Tryz.func62 rfl rfl (by kernel_rfl) ?_
 intro O w0 E0 β0
 have w1:=orderF_fn a b
 repeat' (first|refine z0 ?_|apply ds_nil|apply dw_seq2|refine z16 ?_|apply dw_ret|apply thenD_n|refine z21 ?_ (hc:=by apply w1)|refine z1 ?_|fail)
 exact ret_b rfl rfl
set_option maxHeartbeats 8000000 in
theorem equalFunc_fn {f:FuncId} (l m:List Fct) (hp:∀ a b,Fn f ([elFct a,elFct b]++[]) (fun r=>r = .d (.bool (Fct.same a b)))):Fn 61 [.d (.slice 2 (l.map encFct)),.d (.slice 2 (m.map encFct)),.fn f []] (fun r=>r = .d (.bool (sameL Fct.same l m))):=by
 refine fnp_enter' _ Tryz.func61 rfl rfl (by kernel_rfl) ?_
 intro O w0 E0 β0
 refine dw_len_map (t:=0) rfl fun hb=>?_
 refine dw_len_map (t:=1) rfl fun hb2=>?_
 have ll:(l.map encFct).length=l.length:=List.length_map _
 have lm:(m.map encFct).length=m.length:=List.length_map _
 by_cases hl:l.length=m.length
 ·repeat' (first|refine z0 ?_|apply ds_nil|apply dw_seq2|refine z16 ?_|apply dw_block|apply dw_skip|apply dw_ret|apply thenD_n|apply thenD_r|(refine z23 ?_ ?_ <;> intro hg)|fail)
  all_goals try (exfalso;omega)
  refine ds_loop (ι:=Nat) (fun i=>⟨0,[(1,.d (.slice 2 (m.map encFct))),(2,.fn f []),(15,.d (.slice 2 (l.map encFct))),(16,.d (.int .i64 l.length)),(17,.d (.int .i64 i))],[]⟩)
   (fun i=>i≤l.length∧sameL Fct.same l m=sameL Fct.same (l.drop i) (m.drop i)) (fun i=>l.length - i) 0 ⟨Nat.zero_le _,rfl⟩ (ent_ren id ⟨rfl,rfl,rfl,by rw [← ll];rfl,rfl,trivial⟩ trivial rfl rfl rfl rfl rfl rfl) ?_
  rintro i ⟨g1,g2⟩
  dsimp only at g1 g2 ⊢
  by_cases hi:i < l.length
  ·have w:=hp l[i] (m[i]'(by omega))
   rw [sameL_drop Fct.same l m i hi (by omega)] at g2
   cases hs:Fct.same l[i] (m[i]'(by omega)) with
   | true =>
    rw [hs] at w
    rw [hs,Bool.true_and] at g2
    repeat' (first|refine z0 ?_|apply ds_nil|apply dw_seq2|refine z16 ?_|apply dw_block|apply dw_skip|apply dw_exit|apply dw_ret|refine z19 ?_|apply thenD_n|apply thenD_e|apply inB_n|refine z17 ?_|(apply ds_callV;exact rfl;exact rfl;exact rfl;exact rfl;apply w;exact rfl;(exact rfl);exact rfl;rintro _ rfl)|refine z1 ?_|refine z3 ?_|(refine z23 ?_ ?_ <;> intro hg)|fail)
    all_goals try (exfalso;omega)
    exact⟨i + 1,⟨hi,g2⟩,ent_ren id ⟨rfl,rfl,rfl,rfl,rfl,trivial⟩ trivial rfl rfl rfl rfl rfl rfl,by omega⟩
   | false =>
    rw [hs] at w
    rw [hs,Bool.false_and] at g2
    repeat' (first|refine z0 ?_|apply ds_nil|apply dw_seq2|refine z16 ?_|apply dw_block|apply dw_skip|apply dw_exit|apply dw_ret|refine z18 ?_|apply thenD_n|apply thenD_e|apply thenD_r|apply inB_r|refine z17 ?_|(apply ds_callV;exact rfl;exact rfl;exact rfl;exact rfl;apply w;exact rfl;(exact rfl);exact rfl;rintro _ rfl)|refine z1 ?_|refine z3 ?_|(refine z23 ?_ ?_ <;> intro hg)|fail)
    all_goals try (exfalso;omega)
    exact⟨.inl rfl,_,rfl,rfl,by rw [g2];rfl⟩
  ·rw [sameL_end Fct.same l m i (by omega) (by omega)] at g2
   repeat' (first|refine z0 ?_|apply ds_nil|apply dw_seq2|refine z16 ?_|apply dw_block|apply dw_skip|apply dw_exit|apply dw_ret|apply thenD_n|apply thenD_e|refine z17 ?_|refine z1 ?_|refine z3 ?_|(refine z23 ?_ ?_ <;> intro hg)|fail)
   all_goals try (exfalso;omega)
   exact⟨.inl rfl,_,rfl,rfl,by rw [g2];rfl⟩
 ·rw [sameL_len Fct.same l m hl]
  repeat' (first|refine z0 ?_|apply ds_nil|apply dw_seq2|refine z16 ?_|apply dw_block|apply dw_skip|apply dw_ret|apply thenD_n|apply thenD_r|(refine z23 ?_ ?_ <;> intro hg)|fail)
  all_goals try (exfalso;omega)
  exact⟨.inl rfl,_,rfl,rfl,rfl⟩
def isE (p:Prg) (l m:List Fct) (e:Int):Int:=if mErr p l≠0 then mErr p l else if factsE p.arity m≠0 then factsE p.arity m else e
set_option maxHeartbeats 8000000 in
theorem mis_fn (p:Prg) (l m:List Fct) (e:Int) (x:List Fct) (hx:ModelR p l e x) :
  Fn 21 [elPrg p,.d (.slice 2 (l.map encFct)),.d (.slice 2 (m.map encFct))] (fun r=>r = .tup [.d (.bool (decide (isE p l m e=0) && sameL Fct.same x (setF' m))),.d (.int .i64 (isE p l m e))]):=by
 refine fnp_enter' _ Tryz.func21 rfl rfl (by kernel_rfl) ?_
 intro O w0 E0 β0
 have w1:=levels_fn p
 have w2:=rights_fn p l
 have w3:=rights_fn p m
 have hE:=mErr_lev (p:=p) (l:=l)
 by_cases h0:mErr p l=0
 ·have ho:=mOk h0
  have hEl:levE p=0:=by unfold levE;rw [if_neg (by rw [ho.prog];simp),ho.doc];rfl
  have hL:levL p=docLv p:=by unfold levL;rw [if_pos ⟨ho.prog,ho.doc⟩]
  have hF:factsE p.arity l=0:=by rw [hE,if_neg (by rw [hEl];simp)] at h0;exact h0
  rw [hEl,hL] at w1
  rw [hF] at w2
  by_cases hM:factsE p.arity m=0
  ·rw [hM] at w3
   have hI:isE p l m e=e:=by unfold isE;rw [if_neg (by rw [h0];simp),if_neg (by rw [hM];simp)]
   rw [hI]
   obtain⟨m1,m2⟩:=factsE_ok hM
   have w4:=built_fn p (docLv p) l ho.pr ho.fit ho.len ho.facts
   have w5:=set_fn m (by omega) (fun x hx=>by have:=fct_len ho.pr (m2 x hx);omega)
   have w6:=equalFunc_fn x (setF' m) is1_fn
   repeat' (first|refine z0 ?_|apply ds_nil|apply dw_seq2|refine z16 ?_|apply dw_skip|refine z18 ?_|refine z19 ?_|apply thenD_n|refine z21 ?_ (hc:=by apply w1)|refine z21 ?_ (hc:=by apply w2)|refine z21 ?_ (hc:=by apply w3)|refine z1 ?_|fail)
   all_goals try (exfalso;omega)
   apply ds_call;exact rfl;exact rfl;exact w4;exact rfl;exact rfl;exact rfl
   rintro _ ⟨m',hw,b,rfl,⟨rfl,q1,q2,q3⟩|⟨rfl,rfl,rfl,q1⟩⟩
   ·obtain⟨he,hx'⟩:=hx.unique (.ok m' h0 q1)
    subst he
    subst hx'
    rw [decide_eq_true rfl,Bool.true_and]
    clear w1 w2 w3 w4
    repeat' (first|refine z0 ?_|apply ds_nil|apply dw_seq2|refine z16 ?_|apply dw_skip|apply dw_ret|refine z19 ?_|apply thenD_n|refine z21 ?_ (hc:=by apply w5)|refine z21 ?_ (hc:=by apply w6)|fail)
    all_goals try (exfalso;omega)
    exact⟨.inl rfl,_,rfl,rfl,rfl⟩
   ·obtain⟨he,hx'⟩:=hx.unique (.much h0 q1)
    subst he
    subst hx'
    clear w1 w2 w3 w4
    repeat' (first|refine z0 ?_|apply ds_nil|apply dw_seq2|refine z16 ?_|apply dw_ret|refine z18 ?_|apply thenD_n|apply thenD_r)
    all_goals try (exfalso;omega)
    exact⟨.inl rfl,_,rfl,rfl,rfl⟩
  ·have hI:isE p l m e=factsE p.arity m:=by unfold isE;rw [if_neg (by rw [h0];simp),if_pos hM]
   rw [hI]
   generalize factsE p.arity m=e2 at *
   rw [decide_eq_false hM,Bool.false_and]
   repeat' (first|refine z0 ?_|apply ds_nil|apply dw_seq2|refine z16 ?_|apply dw_skip|apply dw_ret|refine z18 ?_|apply thenD_n|apply thenD_r|refine z21 ?_ (hc:=by apply w1)|refine z21 ?_ (hc:=by apply w2)|refine z21 ?_ (hc:=by apply w3)|refine z1 ?_|(refine z23 ?_ ?_ <;> intro hg)|fail)
   all_goals try (exfalso;omega)
   exact⟨.inl rfl,_,rfl,rfl,rfl⟩
 ·have hI:isE p l m e=mErr p l:=by unfold isE;rw [if_pos h0]
  rw [hI,decide_eq_false h0,Bool.false_and]
  by_cases hl:levE p=0
  ·rw [if_neg (by rw [hl];simp)] at hE
   rw [hl] at w1
   rw [hE] at h0 ⊢
   generalize factsE p.arity l=e2 at *
   repeat' (first|refine z0 ?_|apply ds_nil|apply dw_seq2|refine z16 ?_|apply dw_skip|apply dw_ret|refine z18 ?_|apply thenD_n|apply thenD_r|refine z21 ?_ (hc:=by apply w1)|refine z21 ?_ (hc:=by apply w2)|refine z21 ?_ (hc:=by apply w3)|refine z1 ?_|(refine z23 ?_ ?_ <;> intro hg)|fail)
   all_goals try (exfalso;omega)
   exact⟨.inl rfl,_,rfl,rfl,rfl⟩
  ·rw [if_pos hl] at hE
   rw [hE] at h0 ⊢
   generalize levE p=e2 at *
   repeat' (first|refine z0 ?_|apply ds_nil|apply dw_seq2|refine z16 ?_|apply dw_skip|apply dw_ret|apply thenD_n|apply thenD_r|refine z21 ?_ (hc:=by apply w1)|refine z21 ?_ (hc:=by apply w2)|refine z21 ?_ (hc:=by apply w3)|refine z1 ?_|(refine z23 ?_ ?_ <;> intro hg)|fail)
   all_goals try (exfalso;omega)
   exact⟨.inl rfl,_,rfl,rfl,rfl⟩
set_option maxHeartbeats 8000000 in
theorem ask_fn (p:Prg) (l:List Fct) (pred:Int) (args:List Int) (bound:List Bool) (e:Int) (x:List Fct) (hx:ModelR p l e x) :
  Fn 22 [elPrg p,.d (.slice 2 (l.map encFct)),.d (.int .i64 pred),.d (.slice 1 (args.map encI)),.d (.slice 1 (bound.map encBm))] (fun r=>r = .tup [.d (.slice 2 ((if e=0 then setF' (matchL x pred args bound) else []).map encFct)),.d (.int .i64 e)]):=by
 refine fnp_enter' _ Tryz.func22 rfl rfl (by kernel_rfl) ?_
 intro O w0 E0 β0
 have w1:=model_fn p l e x hx
 obtain⟨x1,x2,x3⟩:=hx.strict
 by_cases he:e=0
 ·subst he
  rw [if_pos rfl]
  have ho:=mOk hx.ok0
  have w2:=match_fn x pred args bound (by omega) (fun y hy=>by have:=fct_len ho.pr (x3 y hy);omega)
  repeat' (first|refine z0 ?_|apply ds_nil|apply dw_seq2|refine z16 ?_|apply dw_skip|apply dw_ret|refine z19 ?_|apply thenD_n|refine z21 ?_ (hc:=by apply w1)|refine z21 ?_ (hc:=by apply w2)|refine z1 ?_|fail)
  all_goals try (exfalso;omega)
  exact⟨.inl rfl,_,rfl,rfl,rfl⟩
 ·rw [if_neg he]
  repeat' (first|refine z0 ?_|apply ds_nil|apply dw_seq2|refine z16 ?_|apply dw_skip|apply thenD_n|refine z21 ?_ (hc:=by apply w1)|refine z1 ?_|(refine z23 ?_ ?_ <;> intro hg)|fail)
  all_goals try (exfalso;omega)
  refine dw_ent (ent_nild 10 2 rfl) ?_
  repeat' (first|apply dw_ret|apply thenD_r)
  exact⟨.inl rfl,_,rfl,rfl,rfl⟩
end Go.Proofs.YtapciiffpnociacGreat

/- The document's levels and needs. Condition: none. -/
namespace Go.Proofs.YtapciiffpnociacGreat
open Go Go.RowKit
attribute [local irreducible] DW DS DL DQ Ev FnOk FnP thenD inBlockD DWr
end Go.Proofs.YtapciiffpnociacGreat

/- The document's ModelOf. Condition: none. -/
namespace Go.Proofs.YtapciiffpnociacGreat
open Go Go.RowKit
theorem setF_self {l:List Fct} (h:Strict l):setF' l=l:=strict_ext (setF_spec l).1 h (setF_spec l).2
attribute [local irreducible] DW DS DL DQ Ev FnOk FnP thenD inBlockD DT
end Go.Proofs.YtapciiffpnociacGreat

/- The document's CheckModel, FullModel; the law's factsAre. Condition: none. -/
namespace Go.Proofs.YtapciiffpnociacGreat
open Go Go.RowKit
attribute [local irreducible] DW DS DL DQ Ev FnOk FnP thenD inBlockD DT
end Go.Proofs.YtapciiffpnociacGreat

/- Plain words: lists that are held against each other. Condition: none. -/
namespace Go.Proofs.YtapciiffpnociacGreat
end Go.Proofs.YtapciiffpnociacGreat

/- The law's begun run of models; the law ModelTells. Condition: none. -/
namespace Go.Proofs.YtapciiffpnociacGreat
open Go Go.RowKit
def smallQ:Rul:=⟨1,[⟨0,0⟩,⟨1,0⟩],0,[⟨1,0,0,[⟨0,0⟩,⟨1,0⟩]⟩],2⟩
theorem smallP_rules:smallP.rules=[smallQ,smallR]:=rfl
theorem small_doc:docOk smallP=true:=by kernel_rfl
theorem small_lv:docLv smallP=[0,0]:=by kernel_rfl
theorem small_err:mErr smallP pairsF=0:=by
 unfold mErr
 rw [if_neg (by rw [show progE nameR smallP=0 by kernel_rfl];simp),if_neg (by rw [small_doc];simp)]
 kernel_rfl
theorem one_way {S:List Fct} {r:Rul} {o:List (List Int)} (h:fromE S r.body (yesOf r.body) (e0 r.vars.toNat)=o) (hs:SortW o) (hl:o.length≤2000):manyW S r=true∧rawW S r=o:=by
 have hw:waysL S r.vars.toNat r.body=o:=(waysL_eq hs (by rw [h])).symm
 have hm:manyW S r=true:=by unfold manyW;rw [hw];exact decide_eq_true hl
 exact⟨hm,by unfold rawW;rw [if_pos hm,hw]⟩
theorem sortW_two {a b:List Int} (h:ordL a b≤0):SortW [a,b]:=List.pairwise_cons.2 ⟨fun x hx=>by rw [List.mem_singleton] at hx;subst hx;exact h,List.pairwise_singleton _ _⟩
def midF:List Fct:=[⟨0,[1,2]⟩,⟨0,[2,3]⟩,⟨1,[1,2]⟩,⟨1,[2,3]⟩]
theorem q_pairs:manyW pairsF smallQ=true∧rawW pairsF smallQ=[[1,2],[2,3]]:=one_way (by kernel_rfl) (sortW_two (by decide)) (by simp)
theorem q_full:manyW fullF smallQ=true∧rawW fullF smallQ=[[1,2],[2,3]]:=one_way (by kernel_rfl) (sortW_two (by decide)) (by simp)
theorem r_mid:manyW midF smallR=true∧rawW midF smallR=[[1,2,3]]:=one_way (by kernel_rfl) (List.pairwise_singleton _ _) (by simp)
theorem r_full:manyW fullF smallR=true∧rawW fullF smallR=[[1,2,3]]:=one_way (by kernel_rfl) (List.pairwise_singleton _ _) (by simp)
theorem small_fct:∀ x∈fullF,FctOk smallP.arity x:=by
 intro x hx
 have:firstL (factE smallP.arity) fullF=0:=by kernel_rfl
 exact factE_ok (firstL_all0 this x hx)
theorem small_strict:Strict fullF:=by
 have:=(setF_spec fullF).1
 rw [show setF' fullF=fullF by kernel_rfl] at this
 exact this
theorem small_model:ModelR smallP pairsF 0 fullF:=by
 have ho:=mOk small_err
 have hV:=lvV_ok ho.pr ho.fit 0 pairsF
 have hset0:setF' pairsF=pairsF:=by kernel_rfl
 have hst0:Strict pairsF:=by
  have:=(setF_spec pairsF).1
  rw [hset0] at this
  exact this
 have i0:InvM (lvV smallP (docLv smallP) 0 pairsF) pairsF pairsF:=inv_first hst0 ⟨ho.facts,fun _ _=>Iff.rfl⟩ (by decide)
 have hQ:smallQ∈(lvV smallP (docLv smallP) 0 pairsF).rs:=List.mem_filter.2 ⟨by rw [smallP_rules];simp,by rw [small_lv];decide⟩
 have hR:smallR∈(lvV smallP (docLv smallP) 0 pairsF).rs:=List.mem_filter.2 ⟨by rw [smallP_rules];simp,by rw [small_lv];decide⟩
 have hq:hdW pairsF smallQ=[⟨1,[1,2]⟩,⟨1,[2,3]⟩]:=by unfold hdW;rw [q_pairs.2];kernel_rfl
 have hr:hdW midF smallR=[⟨1,[1,3]⟩]:=by unfold hdW;rw [r_mid.2];kernel_rfl
 have hqf:hdW fullF smallQ=[⟨1,[1,2]⟩,⟨1,[2,3]⟩]:=by unfold hdW;rw [q_full.2];kernel_rfl
 have hrf:hdW fullF smallR=[⟨1,[1,3]⟩]:=by unfold hdW;rw [r_full.2];kernel_rfl
 have i1:=inv_put hV i0 (H:=[⟨1,[1,2]⟩,⟨1,[2,3]⟩]) (fun x hx=>⟨smallQ,hQ,pairsF,i0,by show x∈hdW pairsF smallQ;rw [hq];exact hx⟩) (by decide)
 rw [show setF' (pairsF++[⟨1,[1,2]⟩,⟨1,[2,3]⟩])=midF by kernel_rfl] at i1
 have i2:=inv_put hV i1 (H:=[⟨1,[1,3]⟩]) (fun x hx=>⟨smallR,hR,midF,i1,by show x∈hdW midF smallR;rw [hr];exact hx⟩) (by decide)
 rw [show setF' (midF++[⟨1,[1,3]⟩])=fullF by kernel_rfl] at i2
 have hfit0:Fit (lvV smallP (docLv smallP) 0 pairsF) pairsF fullF:=by
  have key:∀ r∈(lvV smallP (docLv smallP) 0 pairsF).rs,manyW fullF r=true∧∀ x∈hdW fullF r,x∈fullF:=by
   intro r hr'
   have hm:=(List.mem_filter.1 hr').1
   rw [smallP_rules] at hm
   simp only [List.mem_cons,List.not_mem_nil,or_false] at hm
   rcases hm with rfl|rfl
   ·refine⟨q_full.1,fun x hx=>?_⟩
    rw [hqf] at hx
    simp only [List.mem_cons,List.not_mem_nil,or_false] at hx
    rcases hx with rfl|rfl <;> simp [fullF]
   ·refine⟨r_full.1,fun x hx=>?_⟩
    rw [hrf] at hx
    simp only [List.mem_cons,List.not_mem_nil,or_false] at hx
    subst hx
    simp [fullF]
  exact fit_done i2 (fun r hr=>(key r hr).1) fun r hr=>(key r hr).2
 have hfit1:Fit (lvV smallP (docLv smallP) 1 fullF) fullF fullF:=by
  have hno:∀ r∈(lvV smallP (docLv smallP) 1 fullF).rs,False:=by
   intro r hr'
   obtain⟨hm,hl⟩:=List.mem_filter.1 hr'
   rw [smallP_rules] at hm
   simp only [List.mem_cons,List.not_mem_nil,or_false] at hm
   rw [small_lv] at hl
   rcases hm with rfl|rfl <;> exact absurd (of_decide_eq_true hl) (by decide)
  exact fit_done (inv_first small_strict ⟨small_fct,fun _ _=>Iff.rfl⟩ (by decide)) (fun r hr=>(hno r hr).elim) fun r hr=>(hno r hr).elim
 refine .ok fullF small_err ⟨fullF,⟨pairsF,?_,?_⟩,?_⟩
 ·show pairsF=setF' pairsF
  exact hset0.symm
 ·exact hfit0
 ·exact hfit1
attribute [local irreducible] DW DS DL DQ Ev FnOk FnP thenD inBlockD DT
set_option maxHeartbeats 8000000 in
theorem modelBegun_fn:Fn 26 [] (fun r=>r = .d (.bool true)):=by
 refine fnp_enter' _ Tryz.func26 rfl rfl (by kernel_rfl) ?_
 intro O w0 E0 β0
 have h1:=lsmall_fn
 have h2:=lpairs_fn
 have h3:=lfull_fn
 have h4:=model_fn smallP pairsF 0 fullF small_model
 have h5:=mis_fn smallP pairsF fullF 0 fullF small_model
 rw [show isE smallP pairsF fullF 0=0 by unfold isE;rw [if_neg (by rw [small_err];simp),if_neg (by rw [show factsE smallP.arity fullF=0 by kernel_rfl];simp)]] at h5
 rw [show (decide ((0:Int)=0) && sameL Fct.same fullF (setF' fullF))=true by kernel_rfl] at h5
 have h6:=mis_fn smallP pairsF (fullF.drop 1) 0 fullF small_model
 rw [show isE smallP pairsF (fullF.drop 1) 0=0 by unfold isE;rw [if_neg (by rw [small_err];simp),if_neg (by rw [show factsE smallP.arity (fullF.drop 1)=0 by kernel_rfl];simp)]] at h6
 rw [show (decide ((0:Int)=0) && sameL Fct.same fullF (setF' (fullF.drop 1)))=false by kernel_rfl] at h6
 have h7:=ask_fn smallP pairsF 1 [1,0] [true] 0 fullF small_model
 rw [if_pos rfl,show setF' (matchL fullF 1 [1,0] [true])=[⟨1,[1,2]⟩,⟨1,[1,3]⟩] by kernel_rfl] at h7
 have h8:=sameFacts_fn fullF fullF
 rw [sameF_eq] at h8
 have h9:=sameFacts_fn [⟨1,[1,2]⟩,⟨1,[1,3]⟩] [⟨1,[1,2]⟩,⟨1,[1,3]⟩]
 rw [sameF_eq] at h9
 have lf:(fullF.map encFct).length=5:=rfl
 have lf2:fullF.length=5:=rfl
 repeat' (first|(apply ds_slD;exact rfl;exact rfl;exact rfl;exact rfl;exact rfl;exact rfl;(refine⟨?_,?_,?_⟩ <;> (omega));(first|((with_reducible apply hv_drop);(exact nat_add_1 _))|exact rfl);exact rfl;exact rfl)|refine z0 ?_|apply ds_nil|apply dw_seq2|refine z16 ?_|apply dw_ret|apply thenD_n|refine z21 ?_ (hc:=by apply h1)|refine z21 ?_ (hc:=by apply h2)|refine z21 ?_ (hc:=by apply h3)|refine z21 ?_ (hc:=by apply h4)|refine z21 ?_ (hc:=by apply h5)|refine z21 ?_ (hc:=by apply h6)|refine z21 ?_ (hc:=by apply h7)|refine z21 ?_ (hc:=by apply h8)|refine z21 ?_ (hc:=by apply h9)|refine z4 ?_|fail)
 exact⟨.inl rfl,_,rfl,rfl,rfl⟩
end Go.Proofs.YtapciiffpnociacGreat

/- The law ModelClosed. Condition: none. -/
namespace Go.Proofs.YtapciiffpnociacGreat
open Go Go.RowKit
theorem factE_zero {arity:List Int} {x:Fct} (h:FctOk arity x):factE arity x=0:=by
 unfold factE
 have hp:=h.pred
 have h1:inR x.pred 0 ((arity.length:Int) - 1)=true:=by unfold inR;simp;omega
 rw [if_neg (by rw [h1];simp),if_neg (by simp [h.len]),if_neg]
 intro hc
 rw [List.any_eq_true] at hc
 obtain⟨n,hn,hb⟩:=hc
 rw [numB_of (h.nums n hn)] at hb
 cases hb
theorem factsE_zero {arity:List Int} {l:List Fct} (h:∀ x∈l,FctOk arity x) (hl:l.length≤60):factsE arity l=0:=by
 unfold factsE
 rw [if_neg (by omega)]
 exact z0_firstL fun x hx=>factE_zero (h x hx)
theorem model_heads {p:Prg} {l m:List Fct} (ho:MOk p l) (hr:RunTo p (docLv p) l p.arity.length m) {i:Nat} (hi:i < p.rules.length):wayE p i m=0∧wayH p i m=hdW m p.rules[i]∧∀ x∈hdW m p.rules[i],x∈m:=by
 obtain⟨s1,s2,s3,s4⟩:=RunTo.ok ho.facts ho.len hr
 have hlv:=ho.lvs _ (List.getElem_mem hi)
 obtain⟨h1,h2⟩:=RunTo.heads ho.pr ho.fit ho.facts ho.len hr (List.getElem_mem hi) hlv.1 hlv.2
 have hrule:ruleAt p i=p.rules[i]:=ruleAt_get (n:=(i:Int)) hi
 have hS:=setF_self s1
 have hw:waysE p i m=0:=by
  unfold waysE
  rw [if_neg (by rw [ho.prog];simp),if_neg (by omega),factsE_zero s3 s2]
 have hE:wayE p i m=0:=by
  unfold wayE
  rw [if_neg (by rw [hw];simp),hS,hrule,if_pos h1]
 refine⟨hE,?_,h2⟩
 unfold wayH wayL
 rw [if_pos hE,if_pos hw,hS,hrule]
 rfl
theorem model_closed {p:Prg} {l m:List Fct} (ho:MOk p l) (hr:RunTo p (docLv p) l p.arity.length m):setF' (l++p.rules.flatMap (hdW m))=m:=by
 obtain⟨s1,s2,s3,s4⟩:=RunTo.ok ho.facts ho.len hr
 refine strict_ext (setF_spec _).1 s1 fun x=>?_
 rw [(setF_spec _).2,List.mem_append]
 constructor
 ·rintro (h|h)
  ·exact s4 x h
  ·obtain⟨r,hm,hx⟩:=List.mem_flatMap.1 h
   obtain⟨i,hi,rfl⟩:=List.mem_iff_getElem.1 hm
   exact (model_heads ho hr hi).2.2 x hx
 ·intro hx
  rcases RunTo.from ho.pr ho.fit ho.facts ho.len hr x hx with h|⟨r,hm,_,_,hx⟩
  ·exact .inl h
  ·exact .inr (List.mem_flatMap.2 ⟨r,hm,hx⟩)
attribute [local irreducible] DW DS DL DQ Ev FnOk FnP thenD inBlockD DT
set_option maxHeartbeats 8000000 in
theorem modelClosed_fn (p:Prg) (l:List Fct):Fn 7 [elPrg p,.d (.slice 2 (l.map encFct))] (fun r=>r = .d (.bool true)):=by
 refine fnp_enter' _ Tryz.func7 rfl rfl (by kernel_rfl) ?_
 intro O w0 E0 β0
 obtain⟨e,m,hx⟩:=ModelR.total p l
 obtain⟨x1,x2,x3⟩:=hx.strict
 have h1:=model_fn p l e m hx
 have h2:=modelBegun_fn
 have h3:=ruleBegun_fn
 have lr:(p.rules.map encRul).length=p.rules.length:=List.length_map _
 have lm:(m.map encFct).length=m.length:=List.length_map _
 by_cases he:e=0
 ·subst he
  have h0:=hx.ok0
  have ho:=mOk h0
  have hr:=hx.run h0
  have hrl:=ho.pr.rlen
  have hll:=ho.len
  have ll:(l.map encFct).length=l.length:=List.length_map _
  repeat' (first|(apply ds_bs0;exact rfl;exact rfl;exact rfl;exact rfl;exact rfl;exact rfl;exact rfl;exact rfl)|(first|refine z0 ?_|apply ds_nil|apply dw_seq2|refine z16 ?_|apply dw_block|apply dw_skip|refine z19 ?_|apply thenD_n|refine z21 ?_ (hc:=by apply h1)|refine z21 ?_ (hc:=by apply h2)|refine z21 ?_ (hc:=by apply h3)|refine z1 ?_|refine z2 ?_|fail))
  all_goals try (exfalso;omega)
  refine ds_loop (ι:=Nat × List Fct) (fun c=>⟨2,[(2,.loc 0 0),(5,.d (.slice 2 (m.map encFct))),(7,.row 1),(8,.d (.int .i64 c.1))],
    [(0,.blk 26 [.d (.slice 1 (p.arity.map encI)),.d (.slice 1 (p.names.map encT)),.d (.slice 5 (p.rules.map encRul))]),(1,.row 48 2 (c.2.map encFct))]⟩)
   (fun c=>c.1≤p.rules.length∧c.2=l++(p.rules.take c.1).flatMap (hdW m)∧c.2.length≤60 + 2000 * c.1) (fun c=>p.rules.length - c.1) (0,l) ⟨Nat.zero_le _,by simp,by dsimp only;omega⟩
   (ent_ren (fun j=>match j with|1=>2|j=>j) ⟨rfl,rfl,rfl,rfl,trivial⟩ ⟨rfl,rfl,trivial⟩ rfl rfl rfl rfl rfl rfl) ?_
  rintro⟨i,hs⟩ ⟨g1,g2,g3⟩
  dsimp only at g1 g2 g3 ⊢
  have lhs:(hs.map encFct).length=hs.length:=List.length_map _
  by_cases hi:i < p.rules.length
  ·obtain⟨q1,q2,_⟩:=model_heads ho hr hi
   have w1:=headsA_fn p i m
   rw [q1,q2] at w1
   have hhl:(hdW m p.rules[i]).length≤2000:=by
    refine Nat.le_trans (setF_lenle _) ?_
    rw [headsD_eq]
    exact Nat.le_trans (List.length_filterMap_le _ _) (raw_ok (ho.pr.rul _ (List.getElem_mem hi)) ho.pr.ar x3 x1.nodup).many
   have lhd:((hdW m p.rules[i]).map encFct).length=(hdW m p.rules[i]).length:=List.length_map _
   have hst:(p.rules.take (i + 1)).flatMap (hdW m)=(p.rules.take i).flatMap (hdW m)++hdW m p.rules[i]:=by
    rw [List.take_succ_eq_append_getElem hi,List.flatMap_append];simp
   repeat' (first|refine z0 ?_|apply ds_nil|apply dw_seq2|refine z16 ?_|apply dw_block|apply dw_skip|apply dw_exit|refine z19 ?_|apply thenD_n|apply thenD_e|apply inB_n|refine z17 ?_|refine z21 ?_ (hc:=by apply w1)|refine z2 ?_|(refine z23 ?_ ?_ <;> intro hg)|fail)
   all_goals try (exfalso;omega)
   exact⟨(i + 1,hs++hdW m p.rules[i]),⟨hi,by dsimp only;rw [g2,hst,List.append_assoc],by dsimp only;rw [List.length_append];omega⟩,ent_ren (fun j=>match j with|1=>2|j=>j) ⟨rfl,rfl,rfl,rfl,trivial⟩ ⟨rfl,by dsimp only;rw [List.map_append];rfl,trivial⟩ rfl rfl rfl rfl rfl rfl,by dsimp only;omega⟩
  ·rw [List.take_of_length_le (by omega)] at g2
   have w1:=setOf_fn hs (by omega)
   rw [g2,model_closed ho hr] at w1
   rw [← g2] at w1
   have w2:=sameFacts_fn m m
   rw [sameF_eq] at w2
   repeat' (first|refine z0 ?_|apply ds_nil|apply dw_seq2|refine z16 ?_|apply dw_block|apply dw_skip|apply dw_exit|apply thenD_n|apply thenD_e|refine z17 ?_|(refine z23 ?_ ?_ <;> intro hg)|fail)
   all_goals try (exfalso;omega)
   refine ds_ent (ent_seal 50 rfl rfl rfl) ?_
   repeat' (first|refine z0 ?_|apply ds_nil|apply dw_ret|apply thenD_n|refine z21 ?_ (hc:=by apply w1)|refine z21 ?_ (hc:=by apply w2)|fail)
   exact⟨.inl rfl,_,rfl,rfl,rfl⟩
 ·have hm:m=[]:=by
   cases hx with
   | bad=>rfl
   | ok=>exact absurd rfl he
   | much=>rfl
  subst hm
  repeat' (first|refine z0 ?_|apply ds_nil|apply dw_seq2|refine z16 ?_|apply dw_skip|apply dw_ret|refine z19 ?_|apply thenD_n|apply thenD_r|refine z21 ?_ (hc:=by apply h1)|refine z21 ?_ (hc:=by apply h2)|refine z21 ?_ (hc:=by apply h3)|refine z1 ?_|refine z4 ?_|(refine z23 ?_ ?_ <;> intro hg)|fail)
  all_goals try (exfalso;omega)
  exact⟨.inl rfl,_,rfl,rfl,rfl⟩
end Go.Proofs.YtapciiffpnociacGreat

/- Programs that are handed in, read as data. Condition: none. -/
namespace Go.Proofs.YtapciiffpnociacGreat
open Go Go.RowKit
theorem plistOf {α:Type} {e:RT} {enc:α→List D} (h:∀ x,TyD e x→∃ t,x=enc t):∀ (l:List (List D)),(∀ x∈l,TyD e x)→∃ ts:List α,l=ts.map enc
 | [],_=>⟨[],rfl⟩
 | x::l,hl=>by
  obtain⟨t,rfl⟩:=h x (hl x (List.mem_cons_self ..))
  obtain⟨ts,rfl⟩:=plistOf h l fun y hy=>hl y (List.mem_cons_of_mem _ hy)
  exact⟨t::ts,rfl⟩
theorem psliceOf {α:Type} {c b:Nat} {e:RT} {enc:α→List D} (h:∀ x,TyD e x→∃ t,x=enc t) (x:List D) (hx:TyD (.slice c b e) x):∃ ts:List α,x=[.slice c (ts.map enc)]:=by
 obtain⟨l,_,_,rfl,h3⟩:=hx
 obtain⟨ts,rfl⟩:=plistOf h l h3
 exact⟨ts,rfl⟩
abbrev rtTrm:RT:=.struct [.int .i64,.int .i64]
abbrev rtLtl:RT:=.struct [.int .i64,.int .i64,.int .i64,.slice 2 16 rtTrm]
abbrev rtRul:RT:=.struct [.int .i64,.slice 2 16 rtTrm,.int .i64,.slice 4 48 rtLtl,.int .i64]
abbrev rtPrg:RT:=.struct [.slice 1 8 (.int .i64),.slice 1 16 .str,.slice 5 72 rtRul]
theorem pint_of (x:List D) (h:TyD (.int .i64) x):∃ n:Int,x=encI n:=by
 obtain⟨n,_,rfl⟩:=h
 exact⟨n,rfl⟩
theorem pstr_of (x:List D) (h:TyD .str x):∃ n:ByteArray,x=encT n:=by
 obtain⟨n,_,rfl⟩:=h
 exact⟨n,rfl⟩
theorem trm_of (x:List D) (h:TyD rtTrm x):∃ t:Trm,x=encTrm t:=by
 obtain⟨a,b,rfl,⟨k,_,rfl⟩,c,d,rfl,⟨p,_,rfl⟩,rfl⟩:=h
 exact⟨⟨k,p⟩,rfl⟩
theorem ltl_of (x:List D) (h:TyD rtLtl x):∃ t:Ltl,x=encLtl t:=by
 obtain⟨a,b,rfl,⟨k,_,rfl⟩,c,d,rfl,⟨p,_,rfl⟩,e,f,rfl,⟨q,_,rfl⟩,g,i,rfl,h4,rfl⟩:=h
 obtain⟨l,rfl⟩:=psliceOf trm_of g h4
 exact⟨⟨k,p,q,l⟩,rfl⟩
theorem rul_of (x:List D) (h:TyD rtRul x):∃ t:Rul,x=encRul t:=by
 obtain⟨a,b,rfl,⟨k,_,rfl⟩,c,d,rfl,h2,e,f,rfl,⟨q,_,rfl⟩,g,i,rfl,h4,j,m,rfl,⟨v,_,rfl⟩,rfl⟩:=h
 obtain⟨l,rfl⟩:=psliceOf trm_of c h2
 obtain⟨n,rfl⟩:=psliceOf ltl_of g h4
 exact⟨⟨k,l,q,n,v⟩,rfl⟩
theorem prg_arg (x:List D) (h:TyD rtPrg x):∃ p:Prg,RT.arg rtPrg x=elPrg p:=by
 obtain⟨c,d,rfl,h2,e,f,rfl,h3,g,h,rfl,h4,rfl⟩:=h
 obtain⟨l,rfl⟩:=psliceOf pint_of c h2
 obtain⟨m,rfl⟩:=psliceOf pstr_of e h3
 obtain⟨n,rfl⟩:=psliceOf rul_of g h4
 exact⟨⟨l,m,n⟩,rfl⟩
abbrev rtInts:RT:=.slice 1 8 (.int .i64)
theorem ints_arg (x:List D) (h:TyD rtInts x):∃ l:List Int,RT.arg rtInts x = .d (.slice 1 (l.map encI)):=by
 obtain⟨l,rfl⟩:=psliceOf pint_of x h
 exact⟨l,rfl⟩
abbrev rtFct:RT:=.struct [.int .i64,.slice 1 8 (.int .i64)]
theorem fct_of (x:List D) (h:TyD rtFct x):∃ t:Fct,x=encFct t:=by
 obtain⟨a,b,rfl,⟨k,_,rfl⟩,c,d,rfl,h2,rfl⟩:=h
 obtain⟨l,rfl⟩:=psliceOf pint_of c h2
 exact⟨⟨k,l⟩,rfl⟩
theorem fcts_arg (x:List D) (h:TyD (.slice 2 32 rtFct) x):∃ l:List Fct,RT.arg (.slice 2 32 rtFct) x = .d (.slice 2 (l.map encFct)):=by
 obtain⟨l,rfl⟩:=psliceOf fct_of x h
 exact⟨l,rfl⟩
end Go.Proofs.YtapciiffpnociacGreat

/- The document's NeedsOf, FocusOf. Condition: none. -/
namespace Go.Proofs.YtapciiffpnociacGreat
open Go Go.RowKit
attribute [local irreducible] DW DS DL DQ Ev FnOk FnP thenD inBlockD DWr
end Go.Proofs.YtapciiffpnociacGreat

/- Levels that fit: the law's own check; a small program. Condition: none. -/
namespace Go.Proofs.YtapciiffpnociacGreat
open Go Go.RowKit
attribute [local irreducible] DW DS DL DQ Ev FnOk FnP thenD inBlockD DWr
end Go.Proofs.YtapciiffpnociacGreat

/- The document's SameProgram at a program and itself; the law's small program. Condition: none. -/
namespace Go.Proofs.YtapciiffpnociacGreat
open Go Go.RowKit
attribute [local irreducible] DW DS DL DQ Ev FnOk FnP thenD inBlockD DWr
end Go.Proofs.YtapciiffpnociacGreat

/- The law's own small run. Condition: none. -/
namespace Go.Proofs.YtapciiffpnociacGreat
open Go Go.RowKit
attribute [local irreducible] DW DS DL DQ Ev FnOk FnP thenD inBlockD DWr
theorem small_levE:levE smallP=0:=by kernel_rfl
theorem small_levL:levL smallP=[0,0]:=by kernel_rfl
theorem small_r1:readyE smallP 1=0:=by kernel_rfl
theorem small_r0:readyE smallP 0=0:=by kernel_rfl
theorem small_n1:needsL smallP 1=[true,true]:=by kernel_rfl
theorem small_f0:focusP smallP 0=⟨[2,2],[⟨#[113]⟩,⟨#[112]⟩],[]⟩:=by kernel_rfl
set_option maxHeartbeats 8000000 in
theorem begun_fn:Fn 45 [] (fun res=>res = .d (.bool true)):=by
 refine fnp_enter' _ Tryz.func45 rfl rfl (by kernel_rfl) ?_
 intro O w0 E0 β0
 have h1:=lsmall_fn
 have h2:=levels_fn smallP
 rw [small_levE,small_levL] at h2
 have h3:=pneeds_fn smallP 1
 rw [small_r1,if_pos rfl,small_n1] at h3
 have h4:=focus_fn smallP 0
 rw [small_r0,small_f0] at h4
 have h5:=sameInts_fn [0,0] [0,0]
 repeat' (first|refine z0 ?_|apply ds_nil|apply dw_seq2|refine z16 ?_|apply dw_ret|apply thenD_n|refine z21 ?_ (hc:=by apply h1)|refine z21 ?_ (hc:=by apply h2)|refine z21 ?_ (hc:=by apply h3)|refine z21 ?_ (hc:=by apply h4)|refine z21 ?_ (hc:=by apply h5)|refine z1 ?_|refine z3 ?_|refine z4 ?_|fail)
 exact⟨.inl rfl,_,rfl,rfl,rfl⟩
end Go.Proofs.YtapciiffpnociacGreat

/- The law ModelFocus. Condition: none. -/
namespace Go.Proofs.YtapciiffpnociacGreat
open Go Go.RowKit
theorem match_pred {pred:Int} {args:List Int} {bound:List Bool} {x:Fct} (h:matchB pred args bound x=true):x.pred=pred:=by
 unfold matchB at h
 rw [Bool.and_eq_true,Bool.and_eq_true,decide_eq_true_eq] at h
 exact h.1.1
theorem focus_ask {p:Prg} {pred:Int} {l m:List Fct} (hr:readyE p pred=0) (hm:ModelR p l 0 m):∃ m',ModelR (focusP p pred) l 0 m'∧∀ args bound,setF' (matchL m' pred args bound)=setF' (matchL m pred args bound):=by
 obtain⟨g1,g2⟩:=readyE_ok hr
 have hok:=progE_ok g1
 obtain⟨c1,c2⟩:=doc_clo hok g2
 rw [← needs_same hok g2] at c1 c2
 obtain⟨m',q1,q2⟩:=foc_model hm.ok0 c1 hm
 refine⟨m',?_,fun args bound=>?_⟩
 ·unfold focusP
  rw [if_pos hr]
  exact q1
 ·refine strict_ext (setF_spec _).1 (setF_spec _).1 fun x=>?_
  rw [(setF_spec _).2,(setF_spec _).2]
  unfold matchL
  rw [List.mem_filter,List.mem_filter]
  refine and_congr_left fun hb=>q2 x ?_
  rw [match_pred hb]
  exact c2
attribute [local irreducible] DW DS DL DQ Ev FnOk FnP thenD inBlockD DT
set_option maxHeartbeats 8000000 in
theorem modelFocus_fn (p:Prg) (l:List Fct) (pred:Int) (args:List Int) (bound:List Bool) :
  Fn 11 [elPrg p,.d (.slice 2 (l.map encFct)),.d (.int .i64 pred),.d (.slice 1 (args.map encI)),.d (.slice 1 (bound.map encBm))] (fun r=>r = .d (.bool true)):=by
 refine fnp_enter' _ Tryz.func11 rfl rfl (by kernel_rfl) ?_
 intro O w0 E0 β0
 obtain⟨e,m,hx⟩:=ModelR.total p l
 have h1:=focus_fn p pred
 have h2:=modelBegun_fn
 have h3:=begun_fn
 have h4:=ask_fn p l pred args bound e m hx
 by_cases hr:readyE p pred=0
 ·rw [hr] at h1
  by_cases he:e=0
  ·subst he
   obtain⟨m',q1,q2⟩:=focus_ask hr hx
   have h5:=ask_fn (focusP p pred) l pred args bound 0 m' q1
   rw [if_pos rfl] at h4 h5
   rw [q2] at h5
   have h6:=sameFacts_fn (setF' (matchL m pred args bound)) (setF' (matchL m pred args bound))
   rw [sameF_eq] at h6
   generalize focusP p pred=q at *
   generalize setF' (matchL m pred args bound)=hs at *
   repeat' (first|refine z0 ?_|apply ds_nil|apply dw_seq2|refine z16 ?_|apply dw_skip|apply dw_ret|refine z19 ?_|apply thenD_n|refine z21 ?_ (hc:=by apply h1)|refine z21 ?_ (hc:=by apply h2)|refine z21 ?_ (hc:=by apply h3)|refine z21 ?_ (hc:=by apply h4)|refine z21 ?_ (hc:=by apply h5)|refine z21 ?_ (hc:=by apply h6)|refine z1 ?_|refine z3 ?_|fail)
   all_goals try (exfalso;omega)
   all_goals exact⟨.inl rfl,_,rfl,rfl,rfl⟩
  ·rw [if_neg he] at h4
   generalize focusP p pred=q at *
   repeat' (first|refine z0 ?_|apply ds_nil|apply dw_seq2|refine z16 ?_|apply dw_skip|apply dw_ret|refine z19 ?_|apply thenD_n|apply thenD_r|refine z21 ?_ (hc:=by apply h1)|refine z21 ?_ (hc:=by apply h2)|refine z21 ?_ (hc:=by apply h3)|refine z21 ?_ (hc:=by apply h4)|refine z1 ?_|refine z3 ?_|(refine z23 ?_ ?_ <;> intro hg)|fail)
   all_goals try (exfalso;omega)
   all_goals exact⟨.inl rfl,_,rfl,rfl,rfl⟩
 ·unfold focusP at h1
  rw [if_neg hr] at h1
  generalize readyE p pred=e2 at *
  repeat' (first|refine z0 ?_|apply ds_nil|apply dw_seq2|refine z16 ?_|apply dw_skip|apply dw_ret|refine z19 ?_|apply thenD_n|apply thenD_r|refine z21 ?_ (hc:=by apply h1)|refine z21 ?_ (hc:=by apply h2)|refine z21 ?_ (hc:=by apply h3)|refine z1 ?_|refine z3 ?_|(refine z23 ?_ ?_ <;> intro hg)|fail)
  all_goals try (exfalso;omega)
  all_goals exact⟨.inl rfl,_,rfl,rfl,rfl⟩
end Go.Proofs.YtapciiffpnociacGreat

/- Lists of truths that are handed in, read as data. Condition: none. -/
namespace Go.Proofs.YtapciiffpnociacGreat
open Go Go.RowKit
theorem bool_of (x:List D) (h:TyD .bool x):∃ n:Bool,x=encBm n:=by
 obtain⟨n,rfl⟩:=h
 exact⟨n,rfl⟩
theorem bools_arg (x:List D) (h:TyD (.slice 1 1 .bool) x):∃ l:List Bool,RT.arg (.slice 1 1 .bool) x = .d (.slice 1 (l.map encBm)):=by
 obtain⟨l,rfl⟩:=psliceOf bool_of x h
 exact⟨l,rfl⟩
end Go.Proofs.YtapciiffpnociacGreat
